/- Texts of the proof, part E4. -/
import Derived.Test.YtnogdfionomoaaaGreatE3
namespace Go.Vx
open Go.Proofs Classical
section
variable {μ:Mem}
theorem eJ{ts:List T}{tl:T}{base:Option Addr}{cap:Nat}{vt:Value}(hsl:Sl μ 4 base ts.length ((ts.map T.tm).map Tm.d))(hn:ts.length≤100000)(ht:RepV μ tl.tm.d vt):
  Spec Tryz.prog 259 [.slice base ts.length cap,vt] μ fun v μ'=>RepV μ' (pG ts tl).tm.d v:=by
 have w_:=Tm.invV ht
 obtain⟨q,rfl⟩:=w_
 refine Spec.mk Tryz.func259 (by kernel_rfl) ?_
 intro r3 r4
 refine aB (by omega) (by omega) ?_
 refine lIn (fun z:Nat×T×(Option Addr×Nat)×Mem=>z.1≤ts.length∧μ.Le z.2.2.2∧z.2.1=pG (ts.drop z.1) tl∧RepV z.2.2.2 z.2.1.tm.d (.agg #[.int .i64 z.2.1.tm.kind,.int .i64 z.2.1.tm.num,.string z.2.1.tm.name,.slice z.2.2.1.1 z.2.1.tm.args.length z.2.2.1.2]))
  (fun (j, x, p, μ') => ⟨[(0, .val (.slice base ts.length cap)), (3, .loc 0 r3 0), (4, .loc 1 r4 0), (5, .val (.int .i64 ((j : Int) - 1)))],
   [(0,some (.cells r3 [.val (.int .i64 x.tm.kind),.val (.int .i64 x.tm.num),.val (.string x.tm.name),.val (.slice p.1 x.tm.args.length p.2)] 75)),(1,some (.cells r4 [.val (.int .i64 0),.val (.int .i64 0),.val (.string ⟨#[]⟩),.val (.slice none 0 0)] 75))],2,μ',Mem.nil⟩) (fun z=>z.1)
  (ts.length,tl,q,μ) ⟨Nat.le_refl _,Mem.Le.refl _,by dsimp only;rw[List.drop_length,pG],ht⟩ (fun(_,_,(_,_),_)=>⟨rfl,rfl⟩) ⟨⟨rfl,rfl,rfl,rfl,trivial⟩,⟨rfl,rfl,trivial⟩,rfl,rfl⟩ ?_
 rintro⟨j,x,⟨p1,p2⟩,μ1⟩ ⟨hj,hle,hx,hr⟩
 dsimp only at hj hle hx hr
 refine ifd (fun hlt=>?_) (fun hlt=>?_)
 ·obtain ⟨i, rfl⟩ : ∃ i, j = i + 1 := ⟨j - 1, by omega⟩
  have w_:=aSo (l:=ts) (i:=i) (by omega)
  obtain⟨t,ht'⟩:=w_
  have w_:=T.elemL (hsl.mono hle) ht'
  obtain⟨ad,p,hel,hrt⟩:=w_
  have ei:((i+1:Nat):Int)-1=(i:Int):=by omega
  rw[ei]
  refine eIn hel ?_
  refine cPl (fO hrt hr) fun v μ2 hle2 hR=>?_
  have w_:=Tm.invV hR
  obtain⟨q2,rfl⟩:=w_
  refine aB (by omega) (by omega) ⟨(i,.pair t x,q2,μ2),⟨by dsimp only;omega,hle.trans hle2,?_,hR⟩,by dsimp only;omega,⟨⟨rfl,rfl,rfl,rfl,trivial⟩,⟨rfl,rfl,trivial⟩,rfl,rfl⟩⟩
  dsimp only
  rw[bE ht',pG,hx]
 ·obtain rfl : j = 0 := by omega
  rw[List.drop_zero]at hx
  refine rPl ?_
  rw[←hx]
  exact hr
theorem qZ{t:Bs}{x:T}(h:yG t=some x)(hl:t.length≤400):Spec Tryz.prog 258 [.string (mkS t)] μ fun w μ'=>∃tv,w= .tuple #[tv,.bool true]∧RepV μ' x.tm.d tv:=by
 have hsz:(mkS t).size=t.length:=dK t
 refine Spec.mk Tryz.func258 (by kernel_rfl) ?_
 intro r2
 refine cGv (cO (mkS t) (by rw[hsz];exact Nat.le_trans hl (by decide)) _) ?_
 refine ifd (fun hn=>?_) (fun hn=>?_)
 ·unfold yG at h
  rw[if_pos (by rw[iN];exact decide_eq_true hn)]at h
  cases h
  refine cPl (dT (mkS t)) fun v μ2 hle2 hR=>?_
  have w_:=Tm.invV hR
  obtain⟨p,rfl⟩:=w_
  exact rPl ⟨_,rfl,hR⟩
 ·unfold yG at h
  rw[if_neg (by rw[iN];simpa using hn)]at h
  obtain⟨d,k,rfl,hd,hk,rfl⟩:∃(d:UInt8) (k:Nat),t=[63,d]∧d.toNat=48+k∧k≤9∧x= .var k:=by
   split at h
   ·rename_i d
    split at h
    ·rename_i hd
     cases h
     simp only[Bool.and_eq_true,decide_eq_true_eq]at hd
     have h1:=UInt8.le_iff_toNat_le.1 hd.1
     have h2:=UInt8.le_iff_toNat_le.1 hd.2
     have e1:(48:UInt8).toNat=48:=rfl
     have e2:(57:UInt8).toNat=57:=rfl
     exact⟨d,d.toNat-48,rfl,by omega,by omega,rfl⟩
    ·cases h
   ·cases h
  have hde:d=UInt8.ofNat (48+k):=by
   apply UInt8.toNat_inj.1
   rw[hd,UInt8.toNat_ofNat']
   omega
  subst hde
  have hex:(mkS [63,UInt8.ofNat (48+k)]).extract 1 (mkS [63,UInt8.ofNat (48+k)]).size=mkS [UInt8.ofNat (48+k)]:=by
   rw[cZ,dK];rfl
  have hp:∀μ,aM Tryz.prog 228 [.string ((mkS [63,UInt8.ofNat (48+k)]).extract 1 (mkS [63,UInt8.ofNat (48+k)]).size)] μ (.tuple #[.int .i64 k,.bool true]):=fun μ=>by
   rw[hex];exact mL hk
  have hs2:(mkS [63,UInt8.ofNat (48+k)]).size=2:=dK _
  intro r4
  refine ifd (fun _=>?_) (fun h=>absurd h (by omega))
  refine aN 0 63 rfl rfl ?_
  refine iIn (fun _=>?_) (fun h=>absurd h (by decide))
  refine aG 1 (mkS [63,UInt8.ofNat (48+k)]).size rfl rfl (by omega) (Int.le_refl _) ?_
  refine cGv (hp _) ?_
  refine iIn (fun h=>nomatch h) (fun _=>?_)
  have hrep:RepV μ (T.var k).tm.d (qDi k):=gP _
  refine cGv (jE (T.var k).tm hrep (qOr ⟨by omega,by omega⟩)) ?_
  have hsh:(T.var (k:Int)).tm.Sh:=⟨.var k,⟨by omega,by omega⟩,rfl⟩
  refine iIn (fun h=>?_) (fun _=>?_)
  ·rw [decide_eq_true hsh] at h
   cases h
  ·exact rPl ⟨_,rfl,hrep⟩
def qOz(L:List Bs)(i:Nat)(x:T)(rest:List Bs)(w:Value)(μ':Mem):Prop:=∃tv,∃j:Nat,w= .tuple #[tv,.int .i64 j,.bool true]∧RepV μ' x.tm.d tv∧rest=L.drop j∧i<j∧j≤L.length
theorem dS{α:Type}{l:List α}{i:Nat}{t:α}{r:List α}(h:l.drop i=t::r):l[i]? =some t∧r=l.drop (i+1)∧i<l.length:=by
 have hi:i<l.length:=by
  rcases Nat.lt_or_ge i l.length with k|k
  ·exact k
  ·rw[List.drop_eq_nil_of_le k]at h;cases h
 rw[List.drop_eq_getElem_cons hi]at h
 have h1:=List.cons.inj h
 exact⟨by rw[List.getElem?_eq_getElem hi,h1.1],h1.2.symm,hi⟩
theorem qCe{n:Nat}{l:List Bs}{more:List T}{c:Bs}{r1:List Bs}(h:rdN n l=some (more,c::r1)):∃t r,∃m,n=m+1∧l=t::r∧((more=[]∧(t=[41]∨t=[46])∧c=t∧r1=r)∨(t≠[41]∧t≠[46]∧∃x r',∃more',rdT m (t::r)=some (x,r')∧rdN m r'=some (more',c::r1)∧more=x::more')):=by
 match n,l,h with
 |m+1,t::r,h=>
  refine⟨t,r,m,rfl,rfl,?_⟩
  rw[rdN]at h
  by_cases hc:(t==[41]||t==[46])=true
  ·rw [if_pos hc] at h
   cases h
   simp only[Bool.or_eq_true,beq_iff_eq]at hc
   exact .inl ⟨rfl,hc,rfl,rfl⟩
  ·rw [if_neg hc] at h
   simp only[Bool.or_eq_true,beq_iff_eq,not_or]at hc
   refine .inr ⟨hc.1,hc.2,?_⟩
   split at h
   ·rename_i x r' he
    have w_:=Option.map_eq_some_iff.1 h
    obtain⟨⟨a,b⟩,h1,h2⟩:=w_
    cases h2
    exact⟨x,r',a,he,h1,rfl⟩
   ·cases h
theorem qCf{n:Nat}{l:List Bs}{x:T}{rest:List Bs}(h:rdT n l=some (x,rest)):∃t r,∃m,n=m+1∧l=t::r∧t≠[41]∧t≠[46]∧
  ((t≠[40]∧yG t=some x∧rest=r)∨(t=[40]∧∃items c r1,rdN m r=some (items,c::r1)∧((c=[41]∧x=pG items .nil∧rest=r1)∨(c=[46]∧items≠[]∧∃tl r2,rdT m r1=some (tl,[41]::r2)∧x=pG items tl∧rest=r2)))):=by
 match n,l,h with
 |m+1,t::r,h=>
  refine⟨t,r,m,rfl,rfl,?_⟩
  rw[rdT]at h
  by_cases hc:(t==[41]||t==[46])=true
  ·rw [if_pos hc] at h
   cases h
  ·rw [if_neg hc] at h
   simp only[Bool.or_eq_true,beq_iff_eq,not_or]at hc
   refine⟨hc.1,hc.2,?_⟩
   by_cases h40:t=[40]
   ·subst h40
    rw[if_pos (show(([40]:Bs)==[40])=true by decide)]at h
    refine .inr ⟨rfl,?_⟩
    split at h
    ·rename_i items c r1 he
     refine⟨items,c,r1,he,?_⟩
     by_cases h41:c=[41]
     ·subst h41
      rw[if_pos (show(([41]:Bs)==[41])=true by decide)]at h
      cases h
      exact .inl ⟨rfl,rfl,rfl⟩
     ·rw [if_neg (by simpa using h41)] at h
      by_cases h46:(c==[46]&& !items.isEmpty)=true
      ·rw [if_pos h46] at h
       simp only[Bool.and_eq_true,beq_iff_eq,Bool.not_eq_true',List.isEmpty_eq_false_iff]at h46
       refine .inr ⟨h46.1,h46.2,?_⟩
       split at h
       ·rename_i tl d r2 he2
        by_cases hd:d=[41]
        ·subst hd
         rw[if_pos (show(([41]:Bs)==[41])=true by decide)]at h
         cases h
         exact⟨tl,_,he2,rfl,rfl⟩
        ·rw [if_neg (by simpa using hd)] at h
         cases h
       ·cases h
      ·rw [if_neg h46] at h
       cases h
    ·cases h
   ·rw [if_neg (by simpa using h40)] at h
    have w_:=Option.map_eq_some_iff.1 h
    obtain⟨a,h1,h2⟩:=w_
    cases h2
    exact .inl ⟨h40,h1,rfl⟩
end
end Go.Vx
namespace Go.Vx
open Go.Proofs Classical
theorem Nm.tok{μ:Mem}{L:List Bs}{base:Option Addr}(hs:Sl μ 1 base L.length ((L.map mkS).map D.s)){i:Nat}{t:Bs}(ht:L[i]? =some t):∃ad,ElemAt μ base L.length 1 (i:Int) ad [.string (mkS t)]:=
 Nm.elem hs (by rw[List.getElem?_map,ht];rfl)
theorem nd{p:Prop}[Decidable p](h:(!decide p)=true):¬p:=of_decide_eq_false (by simpa only[Bool.not_eq_true']using h)
theorem nd'{p:Prop}[Decidable p](h:(!decide p)=false):p:=of_decide_eq_true (by simpa only[Bool.not_eq_false']using h)
theorem tI{μ:Mem}:RepV μ T.nil.tm.d (.agg #[.int .i64 0,.int .i64 0,.string ⟨#[]⟩,.slice none 0 0]):=by
 rw[T.tm,Tm.d_mk]
 exact⟨_,rfl,RepS.int (RepS.int (RepS.str (RepS.last (Rep.nilSl 4))))⟩
set_option maxHeartbeats 2000000 in
theorem rA {L : List Bs} (hL : L.length ≤ 400) (hlen : ∀ t ∈ L, t.length ≤ 400) {base : Option Addr} {cap : Nat} : ∀ (n : Nat) {μ : Mem} {i : Nat} {x : T} {rest : List Bs}, Sl μ 1 base L.length ((L.map mkS).map D.s) → rdT n (L.drop i) = some (x, rest) →
  Spec Tryz.prog 230 [.slice base L.length cap,.int .i64 i] μ fun w μ'=>qOz L i x rest w μ':=fun n=>by
 induction n using Nat.strongRecOn with
 |ind n ih=>
 intro μ i x rest hs h
 have w_:=qCf h
 obtain⟨t,r,m,rfl,hd,hn41,hn46,hcase⟩:=w_
 have w_:=dS hd
 obtain⟨ht,hr0,hil⟩:=w_
 have w_:=Nm.tok hs ht
 obtain⟨ad,hel⟩:=w_
 refine Spec.mk Tryz.func230 (by kernel_rfl) ?_
 intro r4
 refine ifd (fun h=>absurd h (by omega)) (fun _=>?_)
 refine eIn hel ?_
 refine ifd (fun h=>absurd (bA h) hn41) (fun _=>?_)
 refine eIn hel ?_
 refine iIn (fun h=>absurd (bA (of_decide_eq_true h)) hn46) (fun _=>?_)
 refine eIn hel ?_
 refine aL (fun h40=>?_) (fun h40=>?_)
 ·rcases hcase with ⟨_, hat, hrest⟩ | ⟨e40, _⟩
  ·refine eIn hel ?_
   refine cPl (qZ hat (hlen t (List.mem_of_getElem? ht))) fun v μ1 hle1 hR=>?_
   obtain⟨tv,rfl,hr⟩:=hR
   have w_:=Tm.invV hr
   obtain⟨q,rfl⟩:=w_
   intro r7
   refine aB (by omega) (by omega) ?_
   exact rPl ⟨_,i+1,rfl,hr,by rw[hrest];exact hr0,by omega,by omega⟩
  ·exact absurd (congrArg mkS e40) h40
 ·have h40 : t = [40] := bA h40
  rcases hcase with⟨n40,_⟩|⟨_,items,c0,r1,hN0,hfin⟩
  ·exact absurd h40 n40
  rw[hr0]at hN0
  intro r9
  refine aB (by omega) (by omega) ?_
  refine lIn (fun z:Nat×List T×Nat×List T×(List Value×Option Nat×Nat)×Mem=>i<z.1∧z.1≤L.length∧z.2.2.1≤m∧rdN z.2.2.1 (L.drop z.1)=some (z.2.2.2.1,c0::r1)∧items=z.2.1++z.2.2.2.1∧Rows z.2.2.2.2.2 4 ((z.2.1.map T.tm).map Tm.d) z.2.2.2.2.1.1∧μ.Le z.2.2.2.2.2∧z.2.1.length≤z.1)
   (fun(i1,_,_,_,(ys,b,c),μ1)=>⟨[(0,.val (.slice base L.length cap)),(1,.val (.int .i64 i1)),(4,.loc 0 r4 0),(9,.row 1 b ys.length c)],[(1,some (.row b c 75 4 ys)),(0,some (.cells r4 [.val (.int .i64 0),.val (.int .i64 0),.val (.string ⟨#[]⟩),.val (.slice none 0 0)] 75))],2,μ1,Mem.nil⟩) (fun z=>L.length-z.1)
   (i+1,[],m,items,([],some r9,0),μ) ⟨by dsimp only;omega,by dsimp only;omega,Nat.le_refl _,hN0,rfl,.nil,Mem.Le.refl _,Nat.zero_le _⟩ (fun(_,_,_,_,(_,_,_),_)=>⟨rfl,rfl⟩) ⟨⟨rfl,rfl,rfl,rfl,trivial⟩,⟨rfl,rfl,trivial⟩,rfl,rfl⟩ ?_
  rintro⟨i1,D,m1,more,⟨ys,b,c⟩,μ1⟩ ⟨hi1,hi1l,hm1,hN,hit,hrows,hle,hDl⟩
  dsimp only at hi1 hi1l hm1 hN hit hrows hle hDl
  have hyl:=hrows.len
  rw[List.length_map,List.length_map]at hyl
  have hyl:=hyl.symm
  have w_:=qCe hN
  obtain⟨t1,rr,m2,rfl,hd1,hcs⟩:=w_
  have w_:=dS hd1
  obtain⟨ht1,hrr,hi1lt⟩:=w_
  have w_:=Nm.tok (hs.mono hle) ht1
  obtain⟨ad1,hel1⟩:=w_
  refine ifd (fun _=>?_) (fun h=>absurd h (by omega))
  refine eIn hel1 ?_
  rcases hcs with⟨hm0,htc,hct,hr1⟩|⟨hn1,hn2,x',r',more',hT,hN',hmore⟩
  ·replace hct := hct.symm
   subst hct
   have he1:r1=L.drop (i1+1):=by rw[hr1,hrr]
   refine aL (fun h41=>?_) (fun h41=>?_)
   ·refine eIn hel1 ?_
    have e46:t1=[46]:=htc.resolve_left fun e=>h41 (congrArg mkS e)
    refine iIn (fun h=>?_) (fun h=>?_)
    ·subst e46
     exact absurd rfl (nd h)
    ·clear h
     intro r13
     refine ifd (fun _=>?_) (fun h=>absurd h (by omega))
     have w_:=Nm.tok (hs.mono hle) ht1
     obtain⟨ad2,hel2⟩:=w_
     refine eIn hel2 ?_
     refine iIn (fun h46=>?_) (fun h46=>?_)
     ·have h46 : t1 = [46] := bA (of_decide_eq_true h46)
      rcases hfin with⟨e41,_⟩|⟨_,hne,tl,r2,htl,hx,hrest⟩
      ·rw[e41]at h46;cases h46
      refine aB (by omega) (by omega) ?_
      rw[he1]at htl
      refine cPl (ih m (by omega) (hs.mono hle) htl) fun v2 μ2 hle2 hR2=>?_
      obtain⟨tv2,j2,rfl,hr2,hj2,hij2,hjl2⟩:=hR2
      have w_:=Tm.invV hr2
      obtain⟨q2,rfl⟩:=w_
      intro r14
      refine iIn (fun h=>nomatch h) (fun _=>?_)
      have w_:=dS hj2.symm
      obtain⟨hj41,hj2e,hj2l⟩:=w_
      have hDne:D.length≠0:=fun e=>hne (by rw[hit,hm0,List.append_nil];exact List.eq_nil_of_length_eq_zero e)
      refine iIn (fun h=>absurd (of_decide_eq_true h) (by omega)) (fun _=>?_)
      refine ifd (fun h=>absurd h (by omega)) (fun _=>?_)
      have w_:=Nm.tok ((hs.mono hle).mono hle2) hj41
      obtain⟨ad3,hel3⟩:=w_
      refine eIn hel3 ?_
      refine iIn (fun h=>absurd rfl (nd h)) (fun _=>?_)
      refine aS [1] fun μ4 hle4 hno4 hat4=>?_
      have hsl4:Sl μ4 4 (b.map fun r=>(⟨r,0,none⟩:Addr)) D.length ((D.map T.tm).map Tm.d):=by
       have k:=Rows.sl hat4 (hrows.mono (hle2.trans hle4)) (Nat.le_trans (m:=1000) (by omega) (by decide))
       have w_:=Rep.sl k
       obtain⟨bz,cz,ez,hsz⟩:=w_
       have w_:=Value.slice.inj ez
       obtain⟨e1,e2,_⟩:=w_
       rw[List.length_map,List.length_map]at hsz
       rwa [←e1]at hsz
      rw[hyl]
      refine bM (eJ (tl:=tl) hsl4 (by omega) (hr2.mono hle4)) fun v5 μ5 hle5 hR5=>?_
      have w_:=Tm.invV hR5
      obtain⟨q5,rfl⟩:=w_
      refine aB (by omega) (by omega) ?_
      refine rPl ⟨_,j2+1,rfl,?_,?_,by omega,by omega⟩
      ·(rw[hx,hit,hm0,List.append_nil];exact hR5)
      ·(rw[hrest];exact hj2e)
     ·have h46 : t1 ≠ [46] := fun e => by rw [e] at h46; exact absurd (of_decide_eq_false h46) (fun h => h rfl)
      have h41:t1=[41]:=htc.resolve_right h46
      rcases hfin with⟨_,hx,hrest⟩|⟨e46,_⟩
      ·refine ifd (fun h => absurd h (by omega)) (fun _ => ?_)
       refine eIn hel2 ?_
       subst h41
       refine iIn (fun h=>absurd rfl (nd h)) (fun _=>?_)
       refine aS [1] fun μ4 hle4 hno4 hat4=>?_
       have hsl4:Sl μ4 4 (b.map fun r=>(⟨r,0,none⟩:Addr)) D.length ((D.map T.tm).map Tm.d):=by
        have k:=Rows.sl hat4 (hrows.mono (hle4)) (Nat.le_trans (m:=1000) (by omega) (by decide))
        have w_:=Rep.sl k
        obtain⟨bz,cz,ez,hsz⟩:=w_
        have w_:=Value.slice.inj ez
        obtain⟨e1,e2,_⟩:=w_
        rw[List.length_map,List.length_map]at hsz
        rwa [←e1]at hsz
       rw[hyl]
       refine bM (eJ (tl:= .nil) hsl4 (by omega) (tI)) fun v5 μ5 hle5 hR5=>?_
       have w_:=Tm.invV hR5
       obtain⟨q5,rfl⟩:=w_
       refine aB (by omega) (by omega) ?_
       refine rPl ⟨_,i1+1,rfl,?_,?_,by omega,by omega⟩
       ·(rw[hx,hit,hm0,List.append_nil];exact hR5)
       ·(rw[hrest];exact he1)
      ·exact absurd e46 h46
   ·intro r13
    refine ifd (fun _=>?_) (fun h=>absurd h (by omega))
    have w_:=Nm.tok (hs.mono hle) ht1
    obtain⟨ad2,hel2⟩:=w_
    refine eIn hel2 ?_
    refine iIn (fun h46=>?_) (fun h46=>?_)
    ·have h46 : t1 = [46] := bA (of_decide_eq_true h46)
     rcases hfin with⟨e41,_⟩|⟨_,hne,tl,r2,htl,hx,hrest⟩
     ·rw[e41]at h46;cases h46
     refine aB (by omega) (by omega) ?_
     rw[he1]at htl
     refine cPl (ih m (by omega) (hs.mono hle) htl) fun v2 μ2 hle2 hR2=>?_
     obtain⟨tv2,j2,rfl,hr2,hj2,hij2,hjl2⟩:=hR2
     have w_:=Tm.invV hr2
     obtain⟨q2,rfl⟩:=w_
     intro r14
     refine iIn (fun h=>nomatch h) (fun _=>?_)
     have w_:=dS hj2.symm
     obtain⟨hj41,hj2e,hj2l⟩:=w_
     have hDne:D.length≠0:=fun e=>hne (by rw[hit,hm0,List.append_nil];exact List.eq_nil_of_length_eq_zero e)
     refine iIn (fun h=>absurd (of_decide_eq_true h) (by omega)) (fun _=>?_)
     refine ifd (fun h=>absurd h (by omega)) (fun _=>?_)
     have w_:=Nm.tok ((hs.mono hle).mono hle2) hj41
     obtain⟨ad3,hel3⟩:=w_
     refine eIn hel3 ?_
     refine iIn (fun h=>absurd rfl (nd h)) (fun _=>?_)
     refine aS [1] fun μ4 hle4 hno4 hat4=>?_
     have hsl4:Sl μ4 4 (b.map fun r=>(⟨r,0,none⟩:Addr)) D.length ((D.map T.tm).map Tm.d):=by
      have k:=Rows.sl hat4 (hrows.mono (hle2.trans hle4)) (Nat.le_trans (m:=1000) (by omega) (by decide))
      have w_:=Rep.sl k
      obtain⟨bz,cz,ez,hsz⟩:=w_
      have w_:=Value.slice.inj ez
      obtain⟨e1,e2,_⟩:=w_
      rw[List.length_map,List.length_map]at hsz
      rwa [←e1]at hsz
     rw[hyl]
     refine bM (eJ (tl:=tl) hsl4 (by omega) (hr2.mono hle4)) fun v5 μ5 hle5 hR5=>?_
     have w_:=Tm.invV hR5
     obtain⟨q5,rfl⟩:=w_
     refine aB (by omega) (by omega) ?_
     refine rPl ⟨_,j2+1,rfl,?_,?_,by omega,by omega⟩
     ·(rw[hx,hit,hm0,List.append_nil];exact hR5)
     ·(rw[hrest];exact hj2e)
    ·have h46 : t1 ≠ [46] := fun e => by rw [e] at h46; exact absurd (of_decide_eq_false h46) (fun h => h rfl)
     have h41:t1=[41]:=htc.resolve_right h46
     rcases hfin with⟨_,hx,hrest⟩|⟨e46,_⟩
     ·refine ifd (fun h => absurd h (by omega)) (fun _ => ?_)
      refine eIn hel2 ?_
      subst h41
      refine iIn (fun h=>absurd rfl (nd h)) (fun _=>?_)
      refine aS [1] fun μ4 hle4 hno4 hat4=>?_
      have hsl4:Sl μ4 4 (b.map fun r=>(⟨r,0,none⟩:Addr)) D.length ((D.map T.tm).map Tm.d):=by
       have k:=Rows.sl hat4 (hrows.mono (hle4)) (Nat.le_trans (m:=1000) (by omega) (by decide))
       have w_:=Rep.sl k
       obtain⟨bz,cz,ez,hsz⟩:=w_
       have w_:=Value.slice.inj ez
       obtain⟨e1,e2,_⟩:=w_
       rw[List.length_map,List.length_map]at hsz
       rwa [←e1]at hsz
      rw[hyl]
      refine bM (eJ (tl:= .nil) hsl4 (by omega) (tI)) fun v5 μ5 hle5 hR5=>?_
      have w_:=Tm.invV hR5
      obtain⟨q5,rfl⟩:=w_
      refine aB (by omega) (by omega) ?_
      refine rPl ⟨_,i1+1,rfl,?_,?_,by omega,by omega⟩
      ·(rw[hx,hit,hm0,List.append_nil];exact hR5)
      ·(rw[hrest];exact he1)
     ·exact absurd e46 h46
  ·refine aL (fun h41 => ?_) (fun h41 => absurd (bA h41) hn1)
   refine eIn hel1 ?_
   refine iIn (fun h=>?_) (fun h=>?_)
   ·rw [← hd1] at hT
    refine cPl (ih m2 (by omega) (hs.mono hle) hT) fun v2 μ2 hle2 hR2=>?_
    obtain⟨tv2,j2,rfl,hr2,hj2,hij2,hjl2⟩:=hR2
    have w_:=Tm.invV hr2
    obtain⟨q2,rfl⟩:=w_
    intro r10
    refine iIn (fun h=>nomatch h) (fun _=>?_)
    intro r11
    refine gIn ?_ ?_ fun b' c' hb'=>?_
    ·show(ys.length+1)*56≤_;omega
    ·exact Nat.le_trans (m:=100000000) (show ys.length+1≤_ by omega) (by decide)
    refine⟨(j2,D++[x'],m2,more',(_,b',c'),μ2),⟨by dsimp only;omega,hjl2,by dsimp only;omega,by rw[←hj2];exact hN',by rw[hit,hmore,List.append_assoc];rfl,?_,hle.trans hle2,by simp only[List.length_append,List.length_singleton];omega⟩,by dsimp only;omega,⟨⟨rfl,rfl,rfl,rfl,trivial⟩,⟨rfl,rfl,trivial⟩,rfl,rfl⟩⟩
    dsimp only
    rw[List.map_append,List.map_append]
    exact(hrows.mono hle2).append (Rows.one hr2 (Tm.d_n _))
   ·exact absurd (bA (nd' h)) hn2
theorem bY{μ:Mem}{k:Int}{s:ByteArray}{ts:List Tm}{gs:List Gl}{vt vg:Value}(ht:RepV μ (.sl 4 (ts.map Tm.d)) vt)(hg:RepV μ (.sl 4 (gs.map Gl.d)) vg)(_h1:vt.oneCell'=true:=by rfl)(_h2:vg.oneCell'=true:=by rfl):
    RepV μ (Gl.mk k s ts gs).d (.agg #[.int .i64 k,.string s,vt,vg]):=by
  rw[Gl.d_eq]
  exact⟨_,rfl,RepS.int (RepS.str ⟨[_],[_],rfl,ht,RepS.last hg⟩)⟩
theorem qCc {n : Nat} {l : List Bs} {more : List T} {r1 : List Bs} (h : rdA n l = some (more, [41] :: r1)) : ∃ t r, ∃ m, n = m + 1 ∧ l = t :: r ∧ ((more = [] ∧ t = [41] ∧ r1 = r) ∨ (t ≠ [41] ∧ ∃ x r', ∃ more', rdT m (t :: r) = some (x, r') ∧ rdA m r' = some (more', [41] :: r1) ∧ more = x :: more')) := by
  match n,l,h with
  | m + 1, t :: r, h =>
    refine⟨t,r,m,rfl,rfl,?_⟩
    rw[rdA]at h
    by_cases hc:(t==[41])=true
    · rw [if_pos hc] at h
      cases h
      exact .inl ⟨rfl,rfl,rfl⟩
    · rw [if_neg hc] at h
      refine .inr ⟨by simpa using hc,?_⟩
      split at h
      · rename_i x r' he
        have w_:=Option.map_eq_some_iff.1 h
        obtain⟨⟨a,b⟩,h1,h2⟩:=w_
        cases h2
        exact⟨x,r',a,he,h1,rfl⟩
      · cases h
theorem yZ {n : Nat} {l : List Bs} {more : List Gl} {r1 : List Bs} (h : qCd n l = some (more, [41] :: r1)) : ∃ t r, ∃ m, n = m + 1 ∧ l = t :: r ∧ ((more = [] ∧ t = [41] ∧ r1 = r) ∨ (t ≠ [41] ∧ ∃ x r', ∃ more', rdG m (t :: r) = some (x, r') ∧ qCd m r' = some (more', [41] :: r1) ∧ more = x :: more')) := by
  match n,l,h with
  | m + 1, t :: r, h =>
    refine⟨t,r,m,rfl,rfl,?_⟩
    rw[qCd]at h
    by_cases hc:(t==[41])=true
    · rw [if_pos hc] at h
      cases h
      exact .inl ⟨rfl,rfl,rfl⟩
    · rw [if_neg hc] at h
      refine .inr ⟨by simpa using hc,?_⟩
      split at h
      · rename_i x r' he
        have w_:=Option.map_eq_some_iff.1 h
        obtain⟨⟨a,b⟩,h1,h2⟩:=w_
        cases h2
        exact⟨x,r',a,he,h1,rfl⟩
      · cases h
theorem tK {n : Nat} {l : List Bs} {g : Gl} {rest : List Bs} (h : rdG n l = some (g, rest)) : ∃ w r, ∃ m, n = m + 1 ∧ l = [40] :: w :: r ∧ 1 < (cV w).1 ∧
    ((((cV w).1 = 7 ∨ (cV w).1 = 8 ∨ (cV w).1 = 10) ∧ ∃ gs, qCd m r = some (gs, [41] :: rest) ∧ g = .mk (cV w).1 (mkS (cV w).2) [] gs) ∨
     ((cV w).1≠7∧(cV w).1≠8∧(cV w).1≠10∧∃ts,rdA m r=some (ts,[41]::rest)∧g= .mk (cV w).1 (mkS (cV w).2) (ts.map T.tm) [])):=by
  match n,l,h with
  | m + 1, t :: w :: r, h =>
    rw[rdG]at h
    by_cases hc:(t==[40]&&decide (1<(cV w).1))=true
    · rw [if_pos (by simpa using hc)] at h
      simp only[Bool.and_eq_true,beq_iff_eq,decide_eq_true_eq]at hc
      obtain⟨rfl,h1⟩:=hc
      refine⟨w,r,m,rfl,rfl,h1,?_⟩
      by_cases hk:((cV w).1==7||(cV w).1==8||(cV w).1==10)=true
      · rw [if_pos hk] at h
        simp only[Bool.or_eq_true,beq_iff_eq]at hk
        refine .inl ⟨by omega,?_⟩
        split at h
        · rename_i gs c r1 he
          by_cases hd:(c==[41])=true
          · rw [if_pos hd] at h
            have hd:c=[41]:=by simpa using hd
            subst hd
            cases h
            exact⟨gs,he,rfl⟩
          · rw[if_neg hd]at h;cases h
        · cases h
      · rw [if_neg hk] at h
        simp only[Bool.or_eq_true,beq_iff_eq,not_or]at hk
        refine .inr ⟨hk.1.1,hk.1.2,hk.2,?_⟩
        split at h
        · rename_i ts c r1 he
          by_cases hd:(c==[41])=true
          · rw [if_pos hd] at h
            have hd:c=[41]:=by simpa using hd
            subst hd
            cases h
            exact⟨ts,he,rfl⟩
          · rw[if_neg hd]at h;cases h
        · cases h
    · rw[if_neg (by simpa using hc)]at h;cases h
def gI(w:Bs)(k:Nat):Int×Bs:=if heads.idxOf w<k then((heads.idxOf w:Nat),[])else(9,w)
theorem yP(w:Bs):gI w 11=cV w:=rfl
theorem qBk:∀k,(h:k<11)→heads.idxOf (heads[k]'h)=k:=by decide
theorem vD{w:Bs}{k:Nat}(hk:k<11)(h:heads[k]? =some w):gI w (k+1)=(((k:Nat):Int),([]:Bs)):=by
  have w_:=List.getElem?_eq_some_iff.1 h
  obtain⟨h1,h2⟩:=w_
  have e:heads.idxOf w=k:=by rw[←h2];exact qBk k hk
  rw[gI,e,if_pos (by omega)]
theorem sX{w x:Bs}{k:Nat}(h:heads[k]? =some x)(hx:x≠w):gI w (k+1)=gI w k:=by
  have e:heads.idxOf w≠k:=fun e=>by
    have w_:=List.getElem?_eq_some_iff.1 h
    obtain⟨h1,h2⟩:=w_
    have hlt:heads.idxOf w<heads.length:=by omega
    have:=List.getElem_idxOf hlt
    subst e
    exact hx (h2.symm.trans this)
  rw[gI,gI]
  by_cases h1:heads.idxOf w<k
  · rw[if_pos h1,if_pos (by omega)]
  · rw[if_neg h1,if_neg (by omega)]
def qOy(L:List Bs)(i:Nat)(g:Gl)(rest:List Bs)(w:Value)(μ':Mem):Prop:=∃tv,∃j:Nat,w= .tuple #[tv,.int .i64 j,.bool true]∧RepV μ' g.d tv∧rest=L.drop j∧i<j∧j≤L.length
theorem pE{μ:Mem}:Spec Tryz.prog 229 [] μ fun v μ'=>NmV μ' (heads.map mkS) v:=by
  refine Spec.mk Tryz.func229 (by kernel_rfl) ?_
  intro r
  refine rFz [0] fun μ4 hle4 hno hat=> .inl ?_
  exact Rows.sl hat (Nm.rows (heads.map mkS)) (by decide)
set_option maxHeartbeats 2000000 in
theorem rG {L : List Bs} (hL : L.length ≤ 400) (hlen : ∀ t ∈ L, t.length ≤ 400) {base : Option Addr} {cap : Nat} : ∀ (n : Nat) {μ : Mem} {i : Nat} {g : Gl} {rest : List Bs}, Sl μ 1 base L.length ((L.map mkS).map D.s) → rdG n (L.drop i) = some (g, rest) →
    Spec Tryz.prog 186 [.slice base L.length cap,.int .i64 i] μ fun w μ'=>qOy L i g rest w μ':=fun n=>by
  induction n using Nat.strongRecOn with
  |ind n ih=>
  intro μ i g rest hs h
  have w_:=tK h
  obtain⟨w,r,m,rfl,hd,h1k,hcase⟩:=w_
  have w_:=dS hd
  obtain⟨ht,hr0,hil⟩:=w_
  have w_:=dS hr0.symm
  obtain⟨hw,hr,hil2⟩:=w_
  have w_:=Nm.tok hs ht
  obtain⟨ad,hel⟩:=w_
  have w_:=Nm.tok hs hw
  obtain⟨adw,helw⟩:=w_
  refine Spec.mk Tryz.func186 (by kernel_rfl) ?_
  intro r4
  refine ifd (fun _=>?_) (fun h=>absurd h (by omega))
  refine eIn hel ?_
  refine iIn (fun h=>absurd (bA (a:=[40]) (b:=[116,114,117,101]) (of_decide_eq_true h)) (by decide)) (fun _=>?_)
  refine ifd (fun _=>?_) (fun h=>absurd h (by omega))
  refine eIn hel ?_
  refine iIn (fun h=>absurd (bA (a:=[40]) (b:=[102,97,105,108]) (of_decide_eq_true h)) (by decide)) (fun _=>?_)
  refine aB (by omega) (by omega) ?_
  refine ifd (fun h=>absurd h (by omega)) (fun _=>?_)
  refine eIn hel ?_
  refine iIn (fun h=>absurd rfl (nd h)) (fun _=>?_)
  refine aB (by omega) (by omega) ?_
  refine eIn helw ?_
  intro r7
  refine cPl pE fun v1 μ1 hle1 hR1=>?_
  have w_:=NmV.sl hR1
  obtain⟨hb,hc,rfl,hhs⟩:=w_
  have hlh:(heads.map mkS).length=11:=by rw[List.length_map];rfl
  rw[hlh]at hhs ⊢
  refine lIn (fun k:Nat=>k≤11) (fun k=>⟨[(0,.val (.slice base L.length cap)),(1,.val (.int .i64 i)),(4,.loc 0 r4 0),(7,.loc 1 r7 0),(63,.val (.slice hb 11 hc)),(64,.val (.int .i64 11)),(65,.val (.int .i64 k))],
      [(1,some (.cells r7 [.val (.int .i64 (gI w k).1),.val (.string (mkS (gI w k).2)),.val (.slice none 0 0),.val (.slice none 0 0)] 61)),(0,some (.cells r4 [.val (.int .i64 0),.val (.string ⟨#[]⟩),.val (.slice none 0 0),.val (.slice none 0 0)] 61))],2,μ1,Mem.nil⟩) (fun k=>11-k)
    0 (by omega) (fun _=>⟨rfl,rfl⟩) ⟨⟨rfl,rfl,rfl,rfl,rfl,rfl,rfl,trivial⟩,⟨rfl,rfl,trivial⟩,rfl,rfl⟩ ?_
  intro k hk
  refine ifd (fun hlt=>?_) (fun hlt=>?_)
  · have hk11 : k < 11 := by omega
    obtain⟨x,hx⟩:∃x,heads[k]? =some x:=⟨_,List.getElem?_eq_getElem (show k<11 from hk11)⟩
    have w_:=Nm.elem (s:=mkS x) hhs (i:=k) (by rw[List.getElem?_map,hx];rfl)
    obtain⟨adh,helh⟩:=w_
    refine eIn helh ?_
    refine aB (by omega) (by omega) ?_
    refine eIn (helw.mono hle1) ?_
    refine ifd (fun he=>?_) (fun he=>?_)
    · have he : x = w := bA he
      subst he
      refine aB (by omega) (by omega) ⟨k+1,by omega,by omega,⟨⟨rfl,rfl,rfl,rfl,rfl,rfl,rfl,trivial⟩,⟨?_,rfl,trivial⟩,rfl,rfl⟩⟩
      rw[vD hk11 hx]
      rfl
    · have he : x ≠ w := fun e => he (congrArg mkS e)
      refine aB (by omega) (by omega) ⟨k+1,by omega,by omega,⟨⟨rfl,rfl,rfl,rfl,rfl,rfl,rfl,trivial⟩,⟨?_,rfl,trivial⟩,rfl,rfl⟩⟩
      rw[sX hx he]
      rfl
  obtain rfl:k=11:=by omega
  rw[yP]
  generalize hkk:cV w=hg at*
  obtain⟨kk,nm⟩:=hg
  dsimp only at h1k hcase ⊢
  have hks:kk≤10:=by
    have:(cV w).1≤10:=by
      rw[cV];split
      · dsimp only;omega
      · dsimp only;omega
    rw[hkk]at this
    exact this
  refine aB (by omega) (by omega) ?_
  rcases hcase with⟨hk3,gs,hrd,hge⟩|⟨hk7,hk8,hk10,ts,hrd,hge⟩
  · rw [hr] at hrd
    refine aU (fun z:Nat×List Gl×Nat×List Gl×(List Value×Option Nat×Nat)×Mem=>i<z.1∧z.1≤L.length∧z.2.2.1≤m∧qCd z.2.2.1 (L.drop z.1)=some (z.2.2.2.1,[41]::rest)∧gs=z.2.1++z.2.2.2.1∧Rows z.2.2.2.2.2 4 (z.2.1.map Gl.d) z.2.2.2.2.1.1∧μ.Le z.2.2.2.2.2∧z.2.1.length≤z.1)
      (fun(i1,_,_,_,(ys,b,c),μ1)=>⟨[(0,.val (.slice base L.length cap)),(1,.val (.int .i64 i1)),(4,.loc 0 r4 0),(7,.loc 1 r7 0)],
        [(0,some (.cells r4 [.val (.int .i64 0),.val (.string ⟨#[]⟩),.val (.slice none 0 0),.val (.slice none 0 0)] 61)),(1,some (.cells r7 [.val (.int .i64 kk),.val (.string (mkS nm)),.val (.slice none 0 0),.row 2 b ys.length c] 61)),(2,some (.row b c 61 4 ys))],3,μ1,Mem.nil⟩) (fun z=>L.length-z.1)
      (i+2,[],m,gs,([],none,0),μ1) ⟨by dsimp only;omega,by dsimp only;omega,Nat.le_refl _,hrd,rfl,.nil,hle1,Nat.zero_le _⟩ (fun(_,_,_,_,(_,_,_),_)=>⟨rfl,rfl⟩)
      ⟨⟨⟨_,rfl,.inl rfl⟩,⟨_,rfl,.inl rfl⟩,⟨_,rfl,.inl rfl⟩,⟨_,rfl,.inl rfl⟩,trivial⟩,⟨.inl rfl,.inr (.inr ⟨_,_,_,_,rfl,rfl,.inl rfl,.inl rfl,.inl rfl,.inr ⟨2,rfl,rfl,Nat.le_refl _⟩,trivial⟩),.inr (.inl ⟨_,_,rfl,Nat.le_refl _⟩),trivial⟩,rfl,rfl⟩ ?_
    rintro⟨i1,Dn,m1,more,⟨ys,b,c⟩,μ2⟩ ⟨hi1,hi1l,hm1,hN,hit,hrows,hle,hDl⟩
    dsimp only at hi1 hi1l hm1 hN hit hrows hle hDl
    have hyl:=hrows.len
    rw[List.length_map]at hyl
    have w_:=yZ hN
    obtain⟨t1,rr,m2,rfl,hd1,hcs⟩:=w_
    have w_:=dS hd1
    obtain⟨ht1,hrr,hi1lt⟩:=w_
    have w_:=Nm.tok (hs.mono hle) ht1
    obtain⟨ad1,hel1⟩:=w_
    refine ifd (fun _=>?_) (fun h=>absurd h (by omega))
    refine eIn hel1 ?_
    rcases hcs with⟨hm0,h41,hr1⟩|⟨hn1,x',r',more',hT,hN',hmore⟩
    · subst h41
      refine iIn (fun h=>absurd rfl (nd h)) (fun _=>?_)
      refine aB (by omega) (by omega) ?_
      refine ifd (fun _=>?_) (fun h=>absurd h (by omega))
      refine rFz [2] fun μ4 hle4 hno hat=> .inl ⟨.agg #[.int .i64 kk,.string (mkS nm),.slice none 0 0,.slice (b.map fun r=>⟨r,0,none⟩) ys.length c],i1+1,?_,?_,?_,by omega,by omega⟩
      · show Value.tuple #[_, _, .bool (decide ((1 : Int) < kk))] = _
        rw[decide_eq_true h1k]
        rfl
      · rw [hge, hit, hm0, List.append_nil]
        exact bY (ts:=[]) (Rep.nilSl 4) (Rows.sl hat (hrows.mono hle4) (Nat.le_trans (m:=1000) (by omega) (by decide)))
      · rw[hr1,hrr]
    · refine iIn (fun _ => ?_) (fun h => absurd (bA (nd' h)) hn1)
      refine ifd (fun _=>?_) (fun h7=>?_)
      · rw [← hd1] at hT
        refine cPl (ih m2 (by omega) (hs.mono hle) hT) fun v2 μ3 hle2 hR2=>?_
        obtain⟨tv2,j2,rfl,hr2,hj2,hij2,hjl2⟩:=hR2
        have w_:=Gl.invV hr2
        obtain⟨q2,rfl⟩:=w_
        intro r10
        refine iIn (fun h=>nomatch h) (fun _=>?_)
        intro r11
        refine gIn ?_ ?_ fun b' c' hb'=>?_
        · show(ys.length+1)*72≤_;omega
        · exact Nat.le_trans (m:=100000000) (show ys.length+1≤_ by omega) (by decide)
        refine⟨(j2,Dn++[x'],m2,more',(_,b',c'),μ3),⟨by dsimp only;omega,hjl2,by dsimp only;omega,by rw[←hj2];exact hN',by rw[hit,hmore,List.append_assoc];rfl,?_,hle.trans hle2,by simp only[List.length_append,List.length_singleton];omega⟩,by dsimp only;omega,⟨⟨rfl,rfl,rfl,rfl,trivial⟩,⟨rfl,rfl,rfl,trivial⟩,rfl,rfl⟩⟩
        dsimp only
        rw[List.map_append]
        exact(hrows.mono hle2).append (Rows.one hr2 (Gl.d_n _))
      · refine ifd (fun _ => ?_) (fun h8 => ?_)
        · rw [← hd1] at hT
          refine cPl (ih m2 (by omega) (hs.mono hle) hT) fun v2 μ3 hle2 hR2=>?_
          obtain⟨tv2,j2,rfl,hr2,hj2,hij2,hjl2⟩:=hR2
          have w_:=Gl.invV hr2
          obtain⟨q2,rfl⟩:=w_
          intro r10
          refine iIn (fun h=>nomatch h) (fun _=>?_)
          intro r11
          refine gIn ?_ ?_ fun b' c' hb'=>?_
          · show(ys.length+1)*72≤_;omega
          · exact Nat.le_trans (m:=100000000) (show ys.length+1≤_ by omega) (by decide)
          refine⟨(j2,Dn++[x'],m2,more',(_,b',c'),μ3),⟨by dsimp only;omega,hjl2,by dsimp only;omega,by rw[←hj2];exact hN',by rw[hit,hmore,List.append_assoc];rfl,?_,hle.trans hle2,by simp only[List.length_append,List.length_singleton];omega⟩,by dsimp only;omega,⟨⟨rfl,rfl,rfl,rfl,trivial⟩,⟨rfl,rfl,rfl,trivial⟩,rfl,rfl⟩⟩
          dsimp only
          rw[List.map_append]
          exact(hrows.mono hle2).append (Rows.one hr2 (Gl.d_n _))
        · refine iIn (fun _ => ?_) (fun h10 => absurd (hk3.resolve_left h7 |>.resolve_left h8) (of_decide_eq_false h10))
          · rw [← hd1] at hT
            refine cPl (ih m2 (by omega) (hs.mono hle) hT) fun v2 μ3 hle2 hR2=>?_
            obtain⟨tv2,j2,rfl,hr2,hj2,hij2,hjl2⟩:=hR2
            have w_:=Gl.invV hr2
            obtain⟨q2,rfl⟩:=w_
            intro r10
            refine iIn (fun h=>nomatch h) (fun _=>?_)
            intro r11
            refine gIn ?_ ?_ fun b' c' hb'=>?_
            · show(ys.length+1)*72≤_;omega
            · exact Nat.le_trans (m:=100000000) (show ys.length+1≤_ by omega) (by decide)
            refine⟨(j2,Dn++[x'],m2,more',(_,b',c'),μ3),⟨by dsimp only;omega,hjl2,by dsimp only;omega,by rw[←hj2];exact hN',by rw[hit,hmore,List.append_assoc];rfl,?_,hle.trans hle2,by simp only[List.length_append,List.length_singleton];omega⟩,by dsimp only;omega,⟨⟨rfl,rfl,rfl,rfl,trivial⟩,⟨rfl,rfl,rfl,trivial⟩,rfl,rfl⟩⟩
            dsimp only
            rw[List.map_append]
            exact(hrows.mono hle2).append (Rows.one hr2 (Gl.d_n _))
  · rw [hr] at hrd
    refine aU (fun z:Nat×List T×Nat×List T×(List Value×Option Nat×Nat)×Mem=>i<z.1∧z.1≤L.length∧z.2.2.1≤m∧rdA z.2.2.1 (L.drop z.1)=some (z.2.2.2.1,[41]::rest)∧ts=z.2.1++z.2.2.2.1∧Rows z.2.2.2.2.2 4 ((z.2.1.map T.tm).map Tm.d) z.2.2.2.2.1.1∧μ.Le z.2.2.2.2.2∧z.2.1.length≤z.1)
      (fun(i1,_,_,_,(ys,b,c),μ1)=>⟨[(0,.val (.slice base L.length cap)),(1,.val (.int .i64 i1)),(4,.loc 0 r4 0),(7,.loc 1 r7 0)],
        [(0,some (.cells r4 [.val (.int .i64 0),.val (.string ⟨#[]⟩),.val (.slice none 0 0),.val (.slice none 0 0)] 61)),(1,some (.cells r7 [.val (.int .i64 kk),.val (.string (mkS nm)),.row 2 b ys.length c,.val (.slice none 0 0)] 61)),(2,some (.row b c 75 4 ys))],3,μ1,Mem.nil⟩) (fun z=>L.length-z.1)
      (i+2,[],m,ts,([],none,0),μ1) ⟨by dsimp only;omega,by dsimp only;omega,Nat.le_refl _,hrd,rfl,.nil,hle1,Nat.zero_le _⟩ (fun(_,_,_,_,(_,_,_),_)=>⟨rfl,rfl⟩)
      ⟨⟨⟨_,rfl,.inl rfl⟩,⟨_,rfl,.inl rfl⟩,⟨_,rfl,.inl rfl⟩,⟨_,rfl,.inl rfl⟩,trivial⟩,⟨.inl rfl,.inr (.inr ⟨_,_,_,_,rfl,rfl,.inl rfl,.inl rfl,.inr ⟨2,rfl,rfl,Nat.le_refl _⟩,.inl rfl,trivial⟩),.inr (.inl ⟨_,_,rfl,Nat.le_refl _⟩),trivial⟩,rfl,rfl⟩ ?_
    rintro⟨i1,Dn,m1,more,⟨ys,b,c⟩,μ2⟩ ⟨hi1,hi1l,hm1,hN,hit,hrows,hle,hDl⟩
    dsimp only at hi1 hi1l hm1 hN hit hrows hle hDl
    have hyl:=hrows.len
    rw[List.length_map,List.length_map]at hyl
    have w_:=qCc hN
    obtain⟨t1,rr,m2,rfl,hd1,hcs⟩:=w_
    have w_:=dS hd1
    obtain⟨ht1,hrr,hi1lt⟩:=w_
    have w_:=Nm.tok (hs.mono hle) ht1
    obtain⟨ad1,hel1⟩:=w_
    refine ifd (fun _=>?_) (fun h=>absurd h (by omega))
    refine eIn hel1 ?_
    rcases hcs with⟨hm0,h41,hr1⟩|⟨hn1,x',r',more',hT,hN',hmore⟩
    · subst h41
      refine iIn (fun h=>absurd rfl (nd h)) (fun _=>?_)
      refine aB (by omega) (by omega) ?_
      refine ifd (fun _=>?_) (fun h=>absurd h (by omega))
      refine rFz [2] fun μ4 hle4 hno hat=> .inl ⟨.agg #[.int .i64 kk,.string (mkS nm),.slice (b.map fun r=>⟨r,0,none⟩) ys.length c,.slice none 0 0],i1+1,?_,?_,?_,by omega,by omega⟩
      · show Value.tuple #[_, _, .bool (decide ((1 : Int) < kk))] = _
        rw[decide_eq_true h1k]
        rfl
      · rw [hge, hit, hm0, List.append_nil]
        exact bY (gs:=[]) (Rows.sl hat (hrows.mono hle4) (Nat.le_trans (m:=1000) (by omega) (by decide))) (Rep.nilSl 4)
      · rw[hr1,hrr]
    · refine iIn (fun _ => ?_) (fun h => absurd (bA (nd' h)) hn1)
      refine ifd (fun h=>absurd h hk7) (fun _=>?_)
      refine ifd (fun h=>absurd h hk8) (fun _=>?_)
      refine iIn (fun h=>absurd (of_decide_eq_true h) hk10) (fun _=>?_)
      rw[←hd1]at hT
      refine cPl (rA hL hlen m2 (hs.mono hle) hT) fun v2 μ3 hle2 hR2=>?_
      obtain⟨tv2,j2,rfl,hr2,hj2,hij2,hjl2⟩:=hR2
      have w_:=Tm.invV hr2
      obtain⟨q2,rfl⟩:=w_
      intro r10
      refine iIn (fun h=>nomatch h) (fun _=>?_)
      intro r11
      refine gIn ?_ ?_ fun b' c' hb'=>?_
      · show(ys.length+1)*56≤_;omega
      · exact Nat.le_trans (m:=100000000) (show ys.length+1≤_ by omega) (by decide)
      refine⟨(j2,Dn++[x'],m2,more',(_,b',c'),μ3),⟨by dsimp only;omega,hjl2,by dsimp only;omega,by rw[←hj2];exact hN',by rw[hit,hmore,List.append_assoc];rfl,?_,hle.trans hle2,by simp only[List.length_append,List.length_singleton];omega⟩,by dsimp only;omega,⟨⟨rfl,rfl,rfl,rfl,trivial⟩,⟨rfl,rfl,rfl,trivial⟩,rfl,rfl⟩⟩
      dsimp only
      rw[List.map_append,List.map_append]
      exact(hrows.mono hle2).append (Rows.one hr2 (Tm.d_n _))
theorem Sl.mid{μ:Mem}{es n c l h:Nat}{base:Option Addr}{xs:List D}(k:Sl μ es base n xs)(hl:l≤h)(hh:h≤n)(hc:n≤c):Sl μ es (if c=l then base else base.map (·.add (l*es))) (h-l) ((xs.drop l).take (h-l)):=by
 have k1:=k.tailL (i:=l) (c:=c) (by omega) hc
 have k2:=k1.headL (c:=0) (i:=h-l) (by omega)
 rw[if_pos rfl,Nat.sub_zero]at k2
 exact k2
theorem jU:∀(l names:List Bs),(∀t∈l,t.length≤400)→∀t∈(cA l names).1,t.length≤400
 |[],_,_,_,h=>nomatch h
 | x :: r, names, hl, t, h => by
  rw[cA]at h
  split at h
  ·rcases List.mem_cons.1 h with rfl | h
   ·show 2≤400;decide
   ·exact jU r _ (fun y hy=>hl y (List.mem_cons_of_mem _ hy)) t h
  ·rcases List.mem_cons.1 h with rfl | h
   ·exact hl _ (by simp)
   ·exact jU r _ (fun y hy=>hl y (List.mem_cons_of_mem _ hy)) t h
theorem qAz:∀(l:List Bs) (k:Nat),k≤(arF k l).1
 |[],_=>Nat.le_refl _
 |t::r,k=>by
  rw[arF]
  split
  ·have:=qAz r (k+1);omega
  ·exact Nat.le_refl _
theorem wP:∀(l:List Bs) (k:Nat),(arF k l).2.length≤l.length
 |[],_=>Nat.le_refl _
 |t::r,k=>by
  rw[arF]
  split
  ·have:=wP r (k+1);rw[List.length_cons];omega
  ·exact Nat.le_refl _
theorem yJ{all:List Bs}{x:Rl}(h:qGs all=some x):wN all=true∧∃d name rest r2 g z,(cA all []).1=d::[100,101,102,105,110,101]::[40]::name::rest∧(arF 0 rest).1≤8∧(arF 0 rest).2=[41]::r2∧rdG all.length r2=some (g,[z])∧
  x=⟨mkS name,(arF 0 rest).1,((cA all []).2.length:Int)-(arF 0 rest).1,g⟩:=by
 unfold qGs at h
 by_cases hB:wN all=true
 ·rw [if_pos hB] at h
  refine⟨hB,?_⟩
  split at h
  ·rename_i d0 d o name rest he
   by_cases hc:(d==[100,101,102,105,110,101]&&o==[40]&&decide ((arF 0 rest).1≤8))=true
   ·rw [if_pos hc] at h
    simp only[Bool.and_eq_true,beq_iff_eq,decide_eq_true_eq]at hc
    obtain⟨⟨rfl,rfl⟩,h8⟩:=hc
    split at h
    ·rename_i c r2 he2
     by_cases h41:(c==[41])=true
     ·rw [if_pos h41] at h
      have h41:c=[41]:=by simpa using h41
      subst h41
      split at h
      ·rename_i g z he3
       cases h
       exact⟨d0,name,rest,r2,g,z,he,h8,he2,he3,rfl⟩
      ·cases h
     ·rw[if_neg h41]at h;cases h
    ·cases h
   ·rw[if_neg hc]at h;cases h
  ·cases h
 ·rw[if_neg hB]at h;cases h
set_option maxHeartbeats 1000000 in
theorem eQ{μ:Mem}{all:List Bs}{base:Option Addr}{cap:Nat}(hs:Sl μ 1 base all.length ((all.map mkS).map D.s))(hl:all.length≤400)(hlen:∀t∈all,t.length≤400){x:Rl}(h:qGs all=some x):
  Spec Tryz.prog 123 [.slice base all.length cap] μ fun w μ'=>∃tv,w= .tuple #[tv,.bool true]∧RepV μ' x.d tv:=by
 have w_:=yJ h
 obtain⟨hB,d0,name,rest,r2,g,z,hN,h8,har,hrd,hx⟩:=w_
 have hcnt:=sS hB
 have hLs:=jU all [] hlen
 have hLl:(cA all []).1.length≤400:=by rw[nL];exact hl
 refine Spec.mk Tryz.func123 (by kernel_rfl) ?_
 intro r2_
 refine cPl (nG hs hl hB) fun v1 μ1 hle1 hR1=>?_
 obtain⟨tv1,rfl,hR1⟩:=hR1
 have w_:=NmV.sl hR1
 obtain⟨b1,c1,rfl,hs1⟩:=w_
 generalize hL:(cA all []).1=L at*
 rw[List.length_map]at hs1 ⊢
 have hLlen:L.length=rest.length+4:=by rw[hN];rfl
 have hrl:3≤rest.length:=by
  have h1:=wP rest 0
  have w_:=tK hrd
  obtain⟨w,r,m,_,e,_⟩:=w_
  rw[har,e]at h1
  simp only[List.length_cons]at h1
  omega
 have w_:=Nm.tok hs1 (i:=1) (t:=[100,101,102,105,110,101]) (by rw[hN];rfl)
 obtain⟨ad1,hel1⟩:=w_
 have w_:=Nm.tok hs1 (i:=2) (t:=[40]) (by rw[hN];rfl)
 obtain⟨ad2,hel2⟩:=w_
 have w_:=Nm.tok hs1 (i:=3) (t:=name) (by rw[hN];rfl)
 obtain⟨ad3,hel3⟩:=w_
 refine iIn (fun h=>nomatch h) (fun _=>?_)
 refine ifd (fun h=>absurd h (by omega)) (fun _=>?_)
 refine eIn hel1 ?_
 refine iIn (fun h=>absurd rfl (nd h)) (fun _=>?_)
 refine eIn hel2 ?_
 refine iIn (fun h=>absurd rfl (nd h)) (fun _=>?_)
 refine eIn hel3 ?_
 intro r7
 refine lIn (fun k:Nat=>4+k≤L.length∧arF 0 rest=arF k (L.drop (4+k)))
  (fun k => ⟨[(2, .loc 0 r2_ 0), (4, .val (.slice b1 L.length c1)), (5, .val (.int .i64 ((cA all []).2.length : Nat))), (7, .loc 1 r7 0), (8, .val (.int .i64 ((4 + k : Nat) : Int)))],
   [(1,some (.cells r7 [.val (.string (mkS name)),.val (.int .i64 k),.val (.int .i64 0),.val (.int .i64 0),.val (.string ⟨#[]⟩),.val (.slice none 0 0),.val (.slice none 0 0)] 63)),(0,some (.cells r2_ [.val (.string ⟨#[]⟩),.val (.int .i64 0),.val (.int .i64 0),.val (.int .i64 0),.val (.string ⟨#[]⟩),.val (.slice none 0 0),.val (.slice none 0 0)] 63))],2,μ1,Mem.nil⟩) (fun k=>L.length-k)
  0 ⟨by omega,by rw[hN];rfl⟩ (fun _=>⟨rfl,rfl⟩) ⟨⟨rfl,rfl,rfl,rfl,rfl,trivial⟩,⟨rfl,rfl,trivial⟩,rfl,rfl⟩ ?_
 rintro k ⟨hk,hka⟩
 have hlt:4+k<L.length:=by
  rcases Nat.lt_or_ge (4+k) L.length with h|h
  ·exact h
  ·rw [List.drop_eq_nil_of_le h, arF] at hka
   rw[hka]at har;cases har
 have hk8:k≤8:=by
  have:=qAz (L.drop (4+k)) k
  rw[←hka]at this
  omega
 obtain⟨t,ht⟩:∃t,L[4+k]? =some t:=⟨_,List.getElem?_eq_getElem hlt⟩
 have w_:=Nm.tok hs1 ht
 obtain⟨adk,helk⟩:=w_
 rw[bE ht,arF]at hka
 refine ifd (fun _=>?_) (fun h=>absurd h (by omega))
 refine eIn helk ?_
 refine cGv (bU (k:=k) (by omega)) ?_
 refine aC (by show 1+1≤_;decide) ?_
 refine iIn (fun he=>?_) (fun he=>?_)
 ·have he : t = uZ k := bA ((of_decide_eq_true he).trans (aZ [63] [_]))
  rw[if_pos (by simpa using he)]at hka
  exact aB (by omega) (by omega) (aB (by omega) (by omega) ⟨k+1,⟨by omega,hka⟩,by omega,⟨⟨rfl,rfl,rfl,rfl,rfl,trivial⟩,⟨rfl,rfl,trivial⟩,rfl,rfl⟩⟩)
 ·have he : t ≠ uZ k := fun e => of_decide_eq_false he ((congrArg mkS e).trans (aZ [63] [_]).symm)
  rw[if_neg (by simpa using he)]at hka
  have hk1:(arF 0 rest).1=k:=by rw[hka]
  have e2:t::L.drop (4+k+1)=[41]::r2:=by rw[←har,hka]
  have e3:=List.cons.inj e2
  obtain rfl:=e3.1
  have hr2:r2=L.drop (4+k+1):=e3.2.symm
  refine ifd (fun h=>absurd h (by omega)) (fun _=>?_)
  refine eIn helk ?_
  refine iIn (fun h=>absurd rfl (nd h)) (fun _=>?_)
  refine aB (by omega) (by omega) ?_
  rw[hr2]at hrd
  refine cPl (rG hLl hLs all.length hs1 hrd) fun v2 μ2 hle2 hR2=>?_
  obtain⟨tv2,j2,rfl,hg,hj2,hij2,hjl2⟩:=hR2
  have w_:=Gl.invV hg
  obtain⟨q2,rfl⟩:=w_
  have hjL:j2+1=L.length:=by
   have:=congrArg List.length hj2
   rw[List.length_drop]at this
   simp only[List.length_cons,List.length_nil]at this
   omega
  intro r9
  refine aB (by omega) (by omega) ?_
  refine iIn (fun _=>?_) (fun h=>nomatch h)
  refine aB (by omega) (by omega) ?_
  refine rPl ⟨.agg #[.string (mkS name),.int .i64 k,.int .i64 (((cA all []).2.length:Nat)-(k:Int)),.int .i64 g.kind,.string g.name,.slice q2.1.1 g.terms.length q2.1.2,.slice q2.2.1 g.goals.length q2.2.2],?_,?_⟩
  ·show Value.tuple #[_, .bool (decide ((j2 : Int) = (L.length : Int) - 1))] = _
   rw[decide_eq_true (by omega)]
  ·rw [hx, Rl.d_eq, hk1]
   have:=hg.cells
   exact⟨_,rfl,RepS.str (RepS.int (RepS.int (RepS.last this)))⟩
theorem kP:∀(n:Nat) (l:Bs),(cQ n l).length≤l.length∧∀t∈cQ n l,t.length≤l.length
 |0,_=>⟨Nat.zero_le _,fun _ h=>nomatch h⟩
 |_+1,[]=>⟨Nat.zero_le _,fun _ h=>nomatch h⟩
 | n + 1, b :: r => by
  have hd:∀p:UInt8→Bool,(r.dropWhile p).length≤r.length:=fun p=>(List.dropWhile_sublist p).length_le
  have ht:∀p:UInt8→Bool,(r.takeWhile p).length≤r.length:=fun p=>(List.takeWhile_sublist p).length_le
  have h1:=kP n r
  rw[cQ]
  split
  ·have h2 := kP n (r.dropWhile fun c => c != 10)
   have h3:=hd fun c=>c !=10
   refine⟨by rw[List.length_cons];omega,fun t h=>?_⟩
   have:=h2.2 t h
   rw[List.length_cons];omega
  ·split
   ·have h2 := kP n (r.dropWhile fun c => !cX c)
    have h3:=hd fun c=> !cX c
    have h4:=ht fun c=> !cX c
    refine⟨by rw[List.length_cons,List.length_cons];omega,fun t h=>?_⟩
    rcases List.mem_cons.1 h with rfl|h
    ·rw[List.length_cons,List.length_cons];omega
    ·have := h2.2 t h
     rw[List.length_cons];omega
   ·split
    ·refine ⟨by rw [List.length_cons, List.length_cons]; omega, fun t h => ?_⟩
     rcases List.mem_cons.1 h with rfl|h
     ·simp only[List.length_cons,List.length_nil];omega
     ·have := h1.2 t h
      rw[List.length_cons];omega
    ·refine ⟨by rw [List.length_cons]; omega, fun t h => ?_⟩
     have:=h1.2 t h
     rw[List.length_cons];omega
theorem uY{t:Bs}{r cur:List Bs}{d:Int}{l:List Rl}(h:rS (t::r) cur d=some l):(0<cE d t∧rS r (cur++[t]) (cE d t)=some l)∨(¬0<cE d t∧∃x l',qGs (cur++[t])=some x∧rS r [] (cE d t)=some l'∧l=x::l'):=by
 rw[rS]at h
 by_cases hd:0<cE d t
 ·rw[if_pos hd]at h;exact .inl ⟨hd,h⟩
 ·rw [if_neg hd] at h
  refine .inr ⟨hd,?_⟩
  split at h
  ·rename_i x he
   have w_:=Option.map_eq_some_iff.1 h
   obtain⟨l',h1,h2⟩:=w_
   exact⟨x,l',he,h1,h2.symm⟩
  ·cases h
theorem yK(d:Int)(t:Bs):d-1≤cE d t∧cE d t≤d+1:=by
 unfold cE;split
 ·omega
 ·split<;>omega
theorem xC{μ:Mem}:RepV μ (Pg.mk []).d (.agg #[.slice none 0 0]):=⟨_,rfl,RepS.last (Rep.nilSl 7)⟩
set_option maxHeartbeats 2000000 in
theorem kE{μ:Mem}{s:Bs}{p:Pg}(h:qEh s=some p)(hl:s.length≤400)(hb:∀b∈s,b.toNat≠59∧(b.toNat=10∨(32≤b.toNat∧b.toNat≤126)))(hw:p.d.wd):
  Spec Tryz.prog 49 [.string (mkS s)] μ fun w μ'=>∃(q:Pg) (tv:Value) (b:Bool),w= .tuple #[tv,.bool b]∧RepV μ' q.d tv∧(b=true→q=p∧p.Ok):=by
 have w_:=Option.map_eq_some_iff.1 h
 obtain⟨rels,hrels,rfl⟩:=w_
 refine Spec.mk Tryz.func49 (by kernel_rfl) ?_
 intro r2
 refine cPl (sQ hl hb) fun v1 μ1 hle1 hR1=>?_
 obtain⟨tv1,rfl,hR1⟩:=hR1
 have htl:=kP s.length s
 generalize hLe:cQ s.length s=L at*
 have w_:=Rep.slC hR1
 obtain⟨tb,tc,rfl,hs,hcap⟩:=w_
 rw[List.length_map,List.length_map]at hs hcap ⊢
 have hLl:L.length≤400:=by omega
 have hLs:∀t∈L,t.length≤400:=fun t ht=>by have:=htl.2 t ht;omega
 refine iIn (fun h=>nomatch h) (fun _=>?_)
 intro r6
 refine aU (fun z:Nat×Nat×Int×List Rl×List Rl×(List Value×Option Nat×Nat)×Mem=>z.1≤L.length∧z.2.1≤z.1∧ -(z.1:Int)≤z.2.2.1∧z.2.2.1≤z.1∧rS (L.drop z.1) ((L.drop z.2.1).take (z.1-z.2.1)) z.2.2.1=some z.2.2.2.2.1∧rels=z.2.2.2.1++z.2.2.2.2.1∧Rows z.2.2.2.2.2.2 7 (z.2.2.2.1.map Rl.d) z.2.2.2.2.2.1.1∧μ1.Le z.2.2.2.2.2.2∧z.2.2.2.1.length≤z.1)
  (fun (i, from_, d, _, _, (ys, b, c), μ2) => ⟨[(2, .loc 0 r2 0), (4, .val (.slice tb L.length tc)), (6, .loc 1 r6 0), (7, .val (.int .i64 from_)), (8, .val (.int .i64 d)), (22, .val (.slice tb L.length tc)), (23, .val (.int .i64 L.length)), (24, .val (.int .i64 i))],
   [(0,some (.cells r2 [.val (.slice none 0 0)] 25)),(1,some (.cells r6 [.row 2 b ys.length c] 25)),(2,some (.row b c 63 7 ys))],3,μ2,Mem.nil⟩) (fun z=>L.length-z.1)
  (0,0,0,[],rels,([],none,0),μ1) ⟨Nat.zero_le _,Nat.zero_le _,Int.le_refl 0,Int.le_refl 0,hrels,rfl,.nil,Mem.Le.refl _,Nat.zero_le _⟩ (fun(_,_,_,_,_,(_,_,_),_)=>⟨rfl,rfl⟩)
  ⟨⟨⟨_,rfl,.inl rfl⟩,⟨_,rfl,.inl rfl⟩,⟨_,rfl,.inl rfl⟩,⟨_,rfl,.inl rfl⟩,⟨_,rfl,.inl rfl⟩,⟨_,rfl,.inl rfl⟩,⟨_,rfl,.inl rfl⟩,⟨_,rfl,.inl rfl⟩,trivial⟩,⟨.inl rfl,.inr (.inr ⟨_,_,_,_,rfl,rfl,.inr ⟨2,rfl,rfl,Nat.le_refl _⟩,trivial⟩),.inr (.inl ⟨_,_,rfl,Nat.le_refl _⟩),trivial⟩,rfl,rfl⟩ ?_
 rintro⟨i,from_,d,done,more,⟨ys,b,c⟩,μ2⟩ ⟨hi,hf,hd1,hd2,hD,hrl,hrows,hle,hdl⟩
 dsimp only at hi hf hd1 hd2 hD hrl hrows hle hdl
 have hyl:=hrows.len
 rw[List.length_map]at hyl
 refine ifd (fun hlt=>?_) (fun hlt=>?_)
 ·obtain ⟨t, ht⟩ : ∃ t, L[i]? = some t := ⟨_, List.getElem?_eq_getElem (by omega)⟩
  have w_:=Nm.tok (hs.mono hle) ht
  obtain⟨ad,hel⟩:=w_
  rw[bE ht]at hD
  have hst:=uY hD
  have hdle:=yK d t
  refine eIn hel ?_
  refine ifd (fun h40=>?_) (fun h40=>?_)
  ·have h40 : t = [40] := bA h40
   have hdd:cE d t=d+1:=by rw[h40];rfl
   refine aB (by omega) (by omega) ?_
   refine ifd (fun h41=>absurd (bA (b:=[41]) h41) (by rw[h40];decide)) (fun _=>?_)
   refine iIn (fun hpos=>?_) (fun hpos=>?_)
   ·have hpos := of_decide_eq_true hpos
    rcases hst with⟨_,hnext⟩|⟨hneg,_⟩
    ·refine aB (by omega) (by omega) ⟨(i + 1, from_, cE d t, done, more, (ys, b, c), μ2), ⟨by dsimp only; omega, by dsimp only; omega, by dsimp only; omega, by dsimp only; omega, ?_, hrl, hrows, hle, by dsimp only; omega⟩, by dsimp only; omega, ⟨⟨rfl, rfl, rfl, rfl, (by rw [hdd]; rfl), rfl, rfl, rfl, trivial⟩, ⟨rfl, rfl, rfl, trivial⟩, rfl, rfl⟩⟩
     dsimp only
     rw[show i+1-from_=(i-from_)+1 from by omega,List.take_add_one,List.getElem?_drop,show from_+(i-from_)=i from by omega,ht]
     exact hnext
    ·exact absurd (by rw[hdd];exact hpos) hneg
   ·have hpos := of_decide_eq_false hpos
    rcases hst with⟨hp,_⟩|⟨_,x,l',hdef,hnext,hmore⟩
    ·exact absurd (by rw[←hdd];exact hp) hpos
    ·have hcur : (L.drop from_).take (i - from_) ++ [t] = (L.drop from_).take (i + 1 - from_) := by
      rw[show i+1-from_=(i-from_)+1 from by omega,List.take_add_one,List.getElem?_drop,show from_+(i-from_)=i from by omega,ht]
      rfl
     rw[hcur]at hdef
     have hclen:((L.drop from_).take (i+1-from_)).length=i+1-from_:=by
      rw[List.length_take,List.length_drop];omega
     have hmid:=(hs.mono hle).mid (c:=tc) (l:=from_) (h:=i+1) (by omega) (by omega) hcap
     have hmid':Sl μ2 1 (if tc=from_ then tb else tb.map (·.add (from_*1))) ((L.drop from_).take (i+1-from_)).length ((((L.drop from_).take (i+1-from_)).map mkS).map D.s):=by
      rw[hclen,List.map_take,List.map_take,List.map_drop,List.map_drop]
      exact hmid
     have hdefS:=eQ (cap:=tc-from_) hmid' (by omega) (fun t ht=>hLs t (List.mem_of_mem_drop (List.mem_of_mem_take ht))) hdef
     rw[hclen]at hdefS
     refine aB (by omega) (by omega) ?_
     refine aG from_ (i+1) rfl rfl (by omega) (by omega) ?_
     refine cPl hdefS fun v3 μ3 hle3 hR3=>?_
     obtain⟨tv3,rfl,hrx⟩:=hR3
     have w_:=Rl.invV hrx
     obtain⟨q3,rfl⟩:=w_
     intro r11
     refine iIn (fun h=>nomatch h) (fun _=>?_)
     intro r12
     refine gIn ?_ ?_ fun b' c' hb'=>?_
     ·show(ys.length+1)*104≤_;omega
     ·exact Nat.le_trans (m:=100000000) (show ys.length+1≤_ by omega) (by decide)
     refine aB (by omega) (by omega) (aB (by omega) (by omega) ⟨(i+1,i+1,cE d t,done++[x],l',(_,b',c'),μ3),⟨by dsimp only;omega,by dsimp only;omega,by dsimp only;omega,by dsimp only;omega,?_,?_,?_,hle.trans hle3,by simp only[List.length_append,List.length_singleton];omega⟩,by dsimp only;omega,⟨⟨rfl,rfl,rfl,rfl,(by rw[hdd];rfl),rfl,rfl,rfl,trivial⟩,⟨rfl,rfl,rfl,trivial⟩,rfl,rfl⟩⟩)
     ·dsimp only
      rw[Nat.sub_self,List.take_zero]
      exact hnext
     ·dsimp only
      rw[hrl,hmore,List.append_assoc];rfl
     ·dsimp only
      rw[List.map_append]
      exact(hrows.mono hle3).append (Rows.one hrx (Rl.d_n _))
  ·have h40 : t ≠ [40] := fun e => h40 (congrArg mkS e)
   refine ifd (fun h41=>?_) (fun h41=>?_)
   ·have h41 : t = [41] := bA h41
    have hdd:cE d t=d-1:=by rw[h41];rfl
    refine aB (by omega) (by omega) ?_
    refine iIn (fun hpos=>?_) (fun hpos=>?_)
    ·have hpos := of_decide_eq_true hpos
     rcases hst with⟨_,hnext⟩|⟨hneg,_⟩
     ·refine aB (by omega) (by omega) ⟨(i + 1, from_, cE d t, done, more, (ys, b, c), μ2), ⟨by dsimp only; omega, by dsimp only; omega, by dsimp only; omega, by dsimp only; omega, ?_, hrl, hrows, hle, by dsimp only; omega⟩, by dsimp only; omega, ⟨⟨rfl, rfl, rfl, rfl, (by rw [hdd]; rfl), rfl, rfl, rfl, trivial⟩, ⟨rfl, rfl, rfl, trivial⟩, rfl, rfl⟩⟩
      dsimp only
      rw[show i+1-from_=(i-from_)+1 from by omega,List.take_add_one,List.getElem?_drop,show from_+(i-from_)=i from by omega,ht]
      exact hnext
     ·exact absurd (by rw[hdd];exact hpos) hneg
    ·have hpos := of_decide_eq_false hpos
     rcases hst with⟨hp,_⟩|⟨_,x,l',hdef,hnext,hmore⟩
     ·exact absurd (by rw[←hdd];exact hp) hpos
     ·have hcur : (L.drop from_).take (i - from_) ++ [t] = (L.drop from_).take (i + 1 - from_) := by
       rw[show i+1-from_=(i-from_)+1 from by omega,List.take_add_one,List.getElem?_drop,show from_+(i-from_)=i from by omega,ht]
       rfl
      rw[hcur]at hdef
      have hclen:((L.drop from_).take (i+1-from_)).length=i+1-from_:=by
       rw[List.length_take,List.length_drop];omega
      have hmid:=(hs.mono hle).mid (c:=tc) (l:=from_) (h:=i+1) (by omega) (by omega) hcap
      have hmid':Sl μ2 1 (if tc=from_ then tb else tb.map (·.add (from_*1))) ((L.drop from_).take (i+1-from_)).length ((((L.drop from_).take (i+1-from_)).map mkS).map D.s):=by
       rw[hclen,List.map_take,List.map_take,List.map_drop,List.map_drop]
       exact hmid
      have hdefS:=eQ (cap:=tc-from_) hmid' (by omega) (fun t ht=>hLs t (List.mem_of_mem_drop (List.mem_of_mem_take ht))) hdef
      rw[hclen]at hdefS
      refine aB (by omega) (by omega) ?_
      refine aG from_ (i+1) rfl rfl (by omega) (by omega) ?_
      refine cPl hdefS fun v3 μ3 hle3 hR3=>?_
      obtain⟨tv3,rfl,hrx⟩:=hR3
      have w_:=Rl.invV hrx
      obtain⟨q3,rfl⟩:=w_
      intro r11
      refine iIn (fun h=>nomatch h) (fun _=>?_)
      intro r12
      refine gIn ?_ ?_ fun b' c' hb'=>?_
      ·show(ys.length+1)*104≤_;omega
      ·exact Nat.le_trans (m:=100000000) (show ys.length+1≤_ by omega) (by decide)
      refine aB (by omega) (by omega) (aB (by omega) (by omega) ⟨(i+1,i+1,cE d t,done++[x],l',(_,b',c'),μ3),⟨by dsimp only;omega,by dsimp only;omega,by dsimp only;omega,by dsimp only;omega,?_,?_,?_,hle.trans hle3,by simp only[List.length_append,List.length_singleton];omega⟩,by dsimp only;omega,⟨⟨rfl,rfl,rfl,rfl,(by rw[hdd];rfl),rfl,rfl,rfl,trivial⟩,⟨rfl,rfl,rfl,trivial⟩,rfl,rfl⟩⟩)
      ·dsimp only
       rw[Nat.sub_self,List.take_zero]
       exact hnext
      ·dsimp only
       rw[hrl,hmore,List.append_assoc];rfl
      ·dsimp only
       rw[List.map_append]
       exact(hrows.mono hle3).append (Rows.one hrx (Rl.d_n _))
   ·have h41 : t ≠ [41] := fun e => h41 (congrArg mkS e)
    have hdd:cE d t=d:=by rw[cE,if_neg (by simpa using h40),if_neg (by simpa using h41)]
    refine iIn (fun hpos=>?_) (fun hpos=>?_)
    ·have hpos := of_decide_eq_true hpos
     rcases hst with⟨_,hnext⟩|⟨hneg,_⟩
     ·refine aB (by omega) (by omega) ⟨(i + 1, from_, cE d t, done, more, (ys, b, c), μ2), ⟨by dsimp only; omega, by dsimp only; omega, by dsimp only; omega, by dsimp only; omega, ?_, hrl, hrows, hle, by dsimp only; omega⟩, by dsimp only; omega, ⟨⟨rfl, rfl, rfl, rfl, (by rw [hdd]; rfl), rfl, rfl, rfl, trivial⟩, ⟨rfl, rfl, rfl, trivial⟩, rfl, rfl⟩⟩
      dsimp only
      rw[show i+1-from_=(i-from_)+1 from by omega,List.take_add_one,List.getElem?_drop,show from_+(i-from_)=i from by omega,ht]
      exact hnext
     ·exact absurd (by rw[hdd];exact hpos) hneg
    ·have hpos := of_decide_eq_false hpos
     rcases hst with⟨hp,_⟩|⟨_,x,l',hdef,hnext,hmore⟩
     ·exact absurd (by rw[←hdd];exact hp) hpos
     ·have hcur : (L.drop from_).take (i - from_) ++ [t] = (L.drop from_).take (i + 1 - from_) := by
       rw[show i+1-from_=(i-from_)+1 from by omega,List.take_add_one,List.getElem?_drop,show from_+(i-from_)=i from by omega,ht]
       rfl
      rw[hcur]at hdef
      have hclen:((L.drop from_).take (i+1-from_)).length=i+1-from_:=by
       rw[List.length_take,List.length_drop];omega
      have hmid:=(hs.mono hle).mid (c:=tc) (l:=from_) (h:=i+1) (by omega) (by omega) hcap
      have hmid':Sl μ2 1 (if tc=from_ then tb else tb.map (·.add (from_*1))) ((L.drop from_).take (i+1-from_)).length ((((L.drop from_).take (i+1-from_)).map mkS).map D.s):=by
       rw[hclen,List.map_take,List.map_take,List.map_drop,List.map_drop]
       exact hmid
      have hdefS:=eQ (cap:=tc-from_) hmid' (by omega) (fun t ht=>hLs t (List.mem_of_mem_drop (List.mem_of_mem_take ht))) hdef
      rw[hclen]at hdefS
      refine aB (by omega) (by omega) ?_
      refine aG from_ (i+1) rfl rfl (by omega) (by omega) ?_
      refine cPl hdefS fun v3 μ3 hle3 hR3=>?_
      obtain⟨tv3,rfl,hrx⟩:=hR3
      have w_:=Rl.invV hrx
      obtain⟨q3,rfl⟩:=w_
      intro r11
      refine iIn (fun h=>nomatch h) (fun _=>?_)
      intro r12
      refine gIn ?_ ?_ fun b' c' hb'=>?_
      ·show(ys.length+1)*104≤_;omega
      ·exact Nat.le_trans (m:=100000000) (show ys.length+1≤_ by omega) (by decide)
      refine aB (by omega) (by omega) (aB (by omega) (by omega) ⟨(i+1,i+1,cE d t,done++[x],l',(_,b',c'),μ3),⟨by dsimp only;omega,by dsimp only;omega,by dsimp only;omega,by dsimp only;omega,?_,?_,?_,hle.trans hle3,by simp only[List.length_append,List.length_singleton];omega⟩,by dsimp only;omega,⟨⟨rfl,rfl,rfl,rfl,(by rw[hdd];rfl),rfl,rfl,rfl,trivial⟩,⟨rfl,rfl,rfl,trivial⟩,rfl,rfl⟩⟩)
      ·dsimp only
       rw[Nat.sub_self,List.take_zero]
       exact hnext
      ·dsimp only
       rw[hrl,hmore,List.append_assoc];rfl
      ·dsimp only
       rw[List.map_append]
       exact(hrows.mono hle3).append (Rows.one hrx (Rl.d_n _))
 ·obtain rfl : i = L.length := by omega
  have hmore:more=[]:=by
   rw[List.drop_length]at hD
   generalize (L.drop from_).take (L.length-from_)=cur at hD
   cases cur with
   |nil=>cases hD;rfl
   |cons a b=>cases hD
  rw[hmore,List.append_nil]at hrl
  refine iIn (fun hd0=>?_) (fun hd0=>?_)
  ·exact rPl ⟨⟨[]⟩,_,false,rfl,xC,fun h=>nomatch h⟩
  ·refine aS [2] fun μ4 hle4 hno4 hat4 => ?_
   have hrep:RepV μ4 (Pg.mk rels).d (.agg #[.slice (b.map fun r=>⟨r,0,none⟩) ys.length c]):=by
    rw[hrl]
    exact⟨_,rfl,RepS.last (Rows.sl hat4 (hrows.mono hle4) (Nat.le_trans (m:=1000) (by omega) (by decide)))⟩
   refine bM (bD hrep hw) fun v5 μ5 hle5 hR5=>?_
   have hR5:v5= .bool (decide (Pg.mk rels).Ok):=hR5
   subst hR5
   refine iIn (fun hok=>?_) (fun hok=>?_)
   ·exact rPl ⟨⟨[]⟩,_,false,rfl,xC,fun h=>nomatch h⟩
   ·exact rPl ⟨⟨rels⟩,_,true,rfl,hrep.mono hle5,fun _=>⟨rfl,nd' hok⟩⟩
end Go.Vx
namespace Go.Vx
open Go.Proofs Classical
mutual
def D.wdB:D→Bool
 | .i n=>decide (-9223372036854775808≤n∧n≤9223372036854775807)
 | .b _=>true
 | .s x=>decide (x.size≤1000)
 | .st fs=>D.wdsB fs
 | .sl _ xs=>D.wdsB xs
def D.wdsB:List D→Bool
 |[]=>true
 |d::r=>d.wdB&&D.wdsB r
end
mutual
theorem D.wd_ofB:∀d:D,d.wdB=true→d.wd
 | .i n,h=>by
  have:=of_decide_eq_true h
  show InR n
  unfold InR
  omega
 | .b _,_=>trivial
 | .s x,h=>Nat.le_trans (of_decide_eq_true h) (by decide)
 | .st fs,h=>D.wds_ofB fs h
 | .sl _ xs,h=>D.wds_ofB xs h
theorem D.wds_ofB:∀l:List D,D.wdsB l=true→D.wds l
 |[],_=>trivial
 |d::r,h=>by
  rw[D.wdsB,Bool.and_eq_true]at h
  exact⟨D.wd_ofB d h.1,D.wds_ofB r h.2⟩
end
def yR(s:Bs):Bool:=decide (s.length≤400)&&s.all (fun b=>decide (b.toNat≠59∧(b.toNat=10∨(32≤b.toNat∧b.toNat≤126))))&&(match qEh s with
 |some p=>p.d.wdB&&lE 3 p&&lE 2 p&& !p.rels.isEmpty&&p.rels.all (fun r=>decide (1≤r.arity))
 |none=>false)
theorem kL{s:Bs}(h:yR s=true):∃p,LibOk s p:=by
 unfold yR at h
 rw[Bool.and_eq_true,Bool.and_eq_true,List.all_eq_true]at h
 obtain⟨⟨h1,h2⟩,h3⟩:=h
 split at h3
 ·rename_i p hp
  simp only[Bool.and_eq_true]at h3
  obtain⟨⟨⟨⟨h4,h5⟩,h6⟩,h7⟩,h8⟩:=h3
  refine⟨p,hp,of_decide_eq_true h1,fun b hb=>of_decide_eq_true (h2 b hb),D.wd_ofB _ h4,h5,h6,fun e=>?_,fun r hr=>of_decide_eq_true (List.all_eq_true.1 h8 r hr)⟩
  rw[e]at h7
  cases h7
 ·cases h3
def tG:Bs:=[108,105,115,116,115]
def qB:Bs:=[40,100,101,102,105,110,101,32,40,97,112,112,101,110,100,32,63,97,32,63,98,32,63,99,41,32,40,111,114,32,40,97,110,100,32,40,61,32,63,97,32,40,41,41,32,40,61,32,63,98,32,63,99,41,41,32,40,97,110,100,32,40,61,32,63,97,32,40,63,120,32,46,32,63,121,41,41,32,40,61,32,63,99,32,40,63,120,32,46,32,63,122,41,41,32,40,97,112,112,101,110,100,32,63,121,32,63,98,32,63,122,41,41,41,41]
def qC:Bs:=[40,100,101,102,105,110,101,32,40,109,101,109,98,101,114,32,63,120,32,63,108,41,32,40,111,114,32,40,61,32,63,108,32,40,63,120,32,46,32,63,114,41,41,32,40,97,110,100,32,40,61,32,63,108,32,40,63,121,32,46,32,63,114,41,41,32,40,109,101,109,98,101,114,32,63,120,32,63,114,41,41,41,41]
def qPt:Bs:=qB++[10]++(qC++[10])
theorem qFr:yR qPt=true:=by decide+kernel
def wY:Bs:=[103,114,97,112,104]
def qD:Bs:=[40,100,101,102,105,110,101,32,40,101,100,103,101,32,63,97,32,63,98,41,32,40,111,114,32,40,97,110,100,32,40,61,32,63,97,32,97,41,32,40,61,32,63,98,32,98,41,41,32,40,97,110,100,32,40,61,32,63,97,32,98,41,32,40,61,32,63,98,32,99,41,41,32,40,97,110,100,32,40,61,32,63,97,32,99,41,32,40,61,32,63,98,32,97,41,41,41,41]
def qE:Bs:=[40,100,101,102,105,110,101,32,40,112,97,116,104,32,63,97,32,63,98,41,32,40,111,114,32,40,101,100,103,101,32,63,97,32,63,98,41,32,40,97,110,100,32,40,112,97,116,104,32,63,97,32,63,99,41,32,40,101,100,103,101,32,63,99,32,63,98,41,41,41,41]
def qPu:Bs:=qD++[10]++(qE++[10])
theorem qFs:yR qPu=true:=by decide+kernel
def qBs:Bs:=[115,101,116,115]
def qF:Bs:=[40,100,101,102,105,110,101,32,40,111,117,116,115,105,100,101,32,63,120,32,63,108,41,32,40,111,114,32,40,61,32,63,108,32,40,41,41,32,40,97,110,100,32,40,61,32,63,108,32,40,63,121,32,46,32,63,114,41,41,32,40,47,61,32,63,120,32,63,121,41,32,40,111,117,116,115,105,100,101,32,63,120,32,63,114,41,41,41,41]
def qG:Bs:=[40,100,101,102,105,110,101,32,40,100,105,115,116,105,110,99,116,32,63,108,41,32,40,111,114,32,40,61,32,63,108,32,40,41,41,32,40,97,110,100,32,40,61,32,63,108,32,40,63,120,32,46,32,63,114,41,41,32,40,111,117,116,115,105,100,101,32,63,120,32,63,114,41,32,40,100,105,115,116,105,110,99,116,32,63,114,41,41,41,41]
def qPv:Bs:=qF++[10]++(qG++[10])
theorem qFt:yR qPv=true:=by decide+kernel
def qHx:Bs:=[103,97,109,101,115]
def qH:Bs:=[40,100,101,102,105,110,101,32,40,109,111,118,101,32,63,97,32,63,98,41,32,40,111,114,32,40,97,110,100,32,40,61,32,63,97,32,97,41,32,40,61,32,63,98,32,98,41,41,32,40,97,110,100,32,40,61,32,63,97,32,98,41,32,40,61,32,63,98,32,97,41,41,32,40,97,110,100,32,40,61,32,63,97,32,98,41,32,40,61,32,63,98,32,99,41,41,41,41]
def qI:Bs:=[40,100,101,102,105,110,101,32,40,119,105,110,32,63,97,41,32,40,97,110,100,32,40,109,111,118,101,32,63,97,32,63,98,41,32,40,110,111,116,32,40,119,105,110,32,63,98,41,41,41,41]
def qPw:Bs:=qH++[10]++(qI++[10])
theorem qFu:yR qPw=true:=by decide+kernel
def libNames:List Bs:=[tG,wY,qBs,qHx]
section
variable {μ:Mem}
theorem iW(a b:Bs)(i:Nat):([a,b].take i).flatMap (·++[10])=if i=0 then []else if i=1 then a++[10]else a++[10]++(b++[10]):=by
 match i with
 |0=>rfl
 |1=>simp
 |i+2=>simp
set_option maxRecDepth 20000 in
theorem oK:aM Tryz.prog 50 [.string (mkS tG)] μ (.string (mkS qPt)):=by
 refine Spec.mk Tryz.func50 (by kernel_rfl) ?_
 intro r0
 refine ifd (fun _=>?_) (fun h=>absurd rfl h)
 intro r1
 refine lIn (fun i:Nat=>i≤2) (fun i=>⟨[(4,.val (.string (mkS (([qB,qC].take i).flatMap (·++[10]))))),(21,.row 1 (some r1) 2 2),(22,.val (.int .i64 2)),(23,.val (.int .i64 i))],[(1,some (.row (some r1) 2 9 1 [.string (mkS qB),.string (mkS qC)]))],2,μ,Mem.nil⟩) (fun i=>2-i)
  0 (by omega) (fun _=>⟨rfl,rfl⟩) ⟨⟨rfl,rfl,rfl,rfl,trivial⟩,⟨rfl,trivial⟩,rfl,rfl⟩ ?_
 intro i hi
 refine ifd (fun hlt=>?_) (fun hlt=>?_)
 ·have w_ : i = 0 ∨ i = 1 := by omega
  rcases w_ with rfl|rfl
  ·refine aX 0 rfl (by decide) (aW (.string (mkS qB)) rfl ?_)
   refine aC (by decide+kernel) ?_
   intro r2
   refine bW [10] rfl ?_
   refine aC (by decide+kernel) ?_
   refine aB (by decide) (by decide) ⟨1,by decide,by decide,⟨⟨?_,rfl,rfl,rfl,trivial⟩,⟨rfl,trivial⟩,rfl,rfl⟩⟩
   exact congrArg (fun s=>some (SV.val (.string s))) (show mkS []++mkS qB++mkS [10]=_ by rw[aZ,aZ,iW];rfl)
  ·refine aX 1 rfl (by decide) (aW (.string (mkS qC)) rfl ?_)
   refine aC (by decide+kernel) ?_
   intro r2
   refine bW [10] rfl ?_
   refine aC (by decide+kernel) ?_
   refine aB (by decide) (by decide) ⟨2,by decide,by decide,⟨⟨?_,rfl,rfl,rfl,trivial⟩,⟨rfl,trivial⟩,rfl,rfl⟩⟩
   exact congrArg (fun s=>some (SV.val (.string s))) (show mkS (([qB,qC].take 1).flatMap (·++[10]))++mkS qC++mkS [10]=_ by rw[aZ,aZ,iW,iW];simp)
 ·obtain rfl : i = 2 := by omega
  exact rGv (congrArg (fun s=>Value.string (mkS s)) (iW _ _ 2)) rfl
set_option maxRecDepth 20000 in
theorem oL:aM Tryz.prog 50 [.string (mkS wY)] μ (.string (mkS qPu)):=by
 refine Spec.mk Tryz.func50 (by kernel_rfl) ?_
 intro r0
 refine ifd (fun h=>absurd (bA (b:=tG) h) (by decide)) (fun _=>?_)
 refine ifd (fun _=>?_) (fun h=>absurd rfl h)
 intro r1
 refine lIn (fun i:Nat=>i≤2) (fun i=>⟨[(4,.val (.string (mkS (([qD,qE].take i).flatMap (·++[10]))))),(21,.row 1 (some r1) 2 2),(22,.val (.int .i64 2)),(23,.val (.int .i64 i))],[(1,some (.row (some r1) 2 9 1 [.string (mkS qD),.string (mkS qE)]))],2,μ,Mem.nil⟩) (fun i=>2-i)
  0 (by omega) (fun _=>⟨rfl,rfl⟩) ⟨⟨rfl,rfl,rfl,rfl,trivial⟩,⟨rfl,trivial⟩,rfl,rfl⟩ ?_
 intro i hi
 refine ifd (fun hlt=>?_) (fun hlt=>?_)
 ·have w_ : i = 0 ∨ i = 1 := by omega
  rcases w_ with rfl|rfl
  ·refine aX 0 rfl (by decide) (aW (.string (mkS qD)) rfl ?_)
   refine aC (by decide+kernel) ?_
   intro r2
   refine bW [10] rfl ?_
   refine aC (by decide+kernel) ?_
   refine aB (by decide) (by decide) ⟨1,by decide,by decide,⟨⟨?_,rfl,rfl,rfl,trivial⟩,⟨rfl,trivial⟩,rfl,rfl⟩⟩
   exact congrArg (fun s=>some (SV.val (.string s))) (show mkS []++mkS qD++mkS [10]=_ by rw[aZ,aZ,iW];rfl)
  ·refine aX 1 rfl (by decide) (aW (.string (mkS qE)) rfl ?_)
   refine aC (by decide+kernel) ?_
   intro r2
   refine bW [10] rfl ?_
   refine aC (by decide+kernel) ?_
   refine aB (by decide) (by decide) ⟨2,by decide,by decide,⟨⟨?_,rfl,rfl,rfl,trivial⟩,⟨rfl,trivial⟩,rfl,rfl⟩⟩
   exact congrArg (fun s=>some (SV.val (.string s))) (show mkS (([qD,qE].take 1).flatMap (·++[10]))++mkS qE++mkS [10]=_ by rw[aZ,aZ,iW,iW];simp)
 ·obtain rfl : i = 2 := by omega
  exact rGv (congrArg (fun s=>Value.string (mkS s)) (iW _ _ 2)) rfl
set_option maxRecDepth 20000 in
theorem oM:aM Tryz.prog 50 [.string (mkS qBs)] μ (.string (mkS qPv)):=by
 refine Spec.mk Tryz.func50 (by kernel_rfl) ?_
 intro r0
 refine ifd (fun h=>absurd (bA (b:=tG) h) (by decide)) (fun _=>?_)
 refine ifd (fun h=>absurd (bA (b:=wY) h) (by decide)) (fun _=>?_)
 refine ifd (fun _=>?_) (fun h=>absurd rfl h)
 intro r1
 refine lIn (fun i:Nat=>i≤2) (fun i=>⟨[(4,.val (.string (mkS (([qF,qG].take i).flatMap (·++[10]))))),(21,.row 1 (some r1) 2 2),(22,.val (.int .i64 2)),(23,.val (.int .i64 i))],[(1,some (.row (some r1) 2 9 1 [.string (mkS qF),.string (mkS qG)]))],2,μ,Mem.nil⟩) (fun i=>2-i)
  0 (by omega) (fun _=>⟨rfl,rfl⟩) ⟨⟨rfl,rfl,rfl,rfl,trivial⟩,⟨rfl,trivial⟩,rfl,rfl⟩ ?_
 intro i hi
 refine ifd (fun hlt=>?_) (fun hlt=>?_)
 ·have w_ : i = 0 ∨ i = 1 := by omega
  rcases w_ with rfl|rfl
  ·refine aX 0 rfl (by decide) (aW (.string (mkS qF)) rfl ?_)
   refine aC (by decide+kernel) ?_
   intro r2
   refine bW [10] rfl ?_
   refine aC (by decide+kernel) ?_
   refine aB (by decide) (by decide) ⟨1,by decide,by decide,⟨⟨?_,rfl,rfl,rfl,trivial⟩,⟨rfl,trivial⟩,rfl,rfl⟩⟩
   exact congrArg (fun s=>some (SV.val (.string s))) (show mkS []++mkS qF++mkS [10]=_ by rw[aZ,aZ,iW];rfl)
  ·refine aX 1 rfl (by decide) (aW (.string (mkS qG)) rfl ?_)
   refine aC (by decide+kernel) ?_
   intro r2
   refine bW [10] rfl ?_
   refine aC (by decide+kernel) ?_
   refine aB (by decide) (by decide) ⟨2,by decide,by decide,⟨⟨?_,rfl,rfl,rfl,trivial⟩,⟨rfl,trivial⟩,rfl,rfl⟩⟩
   exact congrArg (fun s=>some (SV.val (.string s))) (show mkS (([qF,qG].take 1).flatMap (·++[10]))++mkS qG++mkS [10]=_ by rw[aZ,aZ,iW,iW];simp)
 ·obtain rfl : i = 2 := by omega
  exact rGv (congrArg (fun s=>Value.string (mkS s)) (iW _ _ 2)) rfl
set_option maxRecDepth 20000 in
theorem oN:aM Tryz.prog 50 [.string (mkS qHx)] μ (.string (mkS qPw)):=by
 refine Spec.mk Tryz.func50 (by kernel_rfl) ?_
 intro r0
 refine ifd (fun h=>absurd (bA (b:=tG) h) (by decide)) (fun _=>?_)
 refine ifd (fun h=>absurd (bA (b:=wY) h) (by decide)) (fun _=>?_)
 refine ifd (fun h=>absurd (bA (b:=qBs) h) (by decide)) (fun _=>?_)
 refine ifd (fun _=>?_) (fun h=>absurd rfl h)
 intro r1
 refine lIn (fun i:Nat=>i≤2) (fun i=>⟨[(4,.val (.string (mkS (([qH,qI].take i).flatMap (·++[10]))))),(21,.row 1 (some r1) 2 2),(22,.val (.int .i64 2)),(23,.val (.int .i64 i))],[(1,some (.row (some r1) 2 9 1 [.string (mkS qH),.string (mkS qI)]))],2,μ,Mem.nil⟩) (fun i=>2-i)
  0 (by omega) (fun _=>⟨rfl,rfl⟩) ⟨⟨rfl,rfl,rfl,rfl,trivial⟩,⟨rfl,trivial⟩,rfl,rfl⟩ ?_
 intro i hi
 refine ifd (fun hlt=>?_) (fun hlt=>?_)
 ·have w_ : i = 0 ∨ i = 1 := by omega
  rcases w_ with rfl|rfl
  ·refine aX 0 rfl (by decide) (aW (.string (mkS qH)) rfl ?_)
   refine aC (by decide+kernel) ?_
   intro r2
   refine bW [10] rfl ?_
   refine aC (by decide+kernel) ?_
   refine aB (by decide) (by decide) ⟨1,by decide,by decide,⟨⟨?_,rfl,rfl,rfl,trivial⟩,⟨rfl,trivial⟩,rfl,rfl⟩⟩
   exact congrArg (fun s=>some (SV.val (.string s))) (show mkS []++mkS qH++mkS [10]=_ by rw[aZ,aZ,iW];rfl)
  ·refine aX 1 rfl (by decide) (aW (.string (mkS qI)) rfl ?_)
   refine aC (by decide+kernel) ?_
   intro r2
   refine bW [10] rfl ?_
   refine aC (by decide+kernel) ?_
   refine aB (by decide) (by decide) ⟨2,by decide,by decide,⟨⟨?_,rfl,rfl,rfl,trivial⟩,⟨rfl,trivial⟩,rfl,rfl⟩⟩
   exact congrArg (fun s=>some (SV.val (.string s))) (show mkS (([qH,qI].take 1).flatMap (·++[10]))++mkS qI++mkS [10]=_ by rw[aZ,aZ,iW,iW];simp)
 ·obtain rfl : i = 2 := by omega
  exact rGv (congrArg (fun s=>Value.string (mkS s)) (iW _ _ 2)) rfl
end
end Go.Vx
namespace Go.Vx
open Go.Proofs Classical
section
variable {μ:Mem}
theorem tC{h:Mem}{r:Nat}(hc:Cur μ h r h){L:List Bs}{base:Option Addr}{cap:Nat}(hs:Sl μ 1 base L.length ((L.map mkS).map D.s))(h1:1≤L.length)(h2:L.length≤200):
  SpecH Tryz.prog 124 [.pointer (some ⟨r,0,none⟩),.slice base L.length cap] μ h fun v μ' h'=>μ'=μ∧Cur μ h r h'∧∃s∈L,v= .string (mkS s):=by
 refine SpecH.mk [] Tryz.func124 (by kernel_rfl) ?_
 refine cOw (aI hc L.length) fun v μ1 h1 hle1 hap1 hR=>?_
 obtain⟨e,hc1,k,rfl,hk,hk2,_⟩:=hR
 obtain rfl:=e.symm
 have hk2:=hk2 (by omega)
 obtain⟨t,ht⟩:∃t,L[k]? =some t:=⟨_,List.getElem?_eq_getElem (by omega)⟩
 have w_:=Nm.tok hs ht
 obtain⟨ad,hel⟩:=w_
 refine eIn hel ?_
 exact rPl ⟨rfl,hc1,t,List.mem_of_getElem? ht,rfl⟩
theorem rF{h:Mem}{r:Nat}(hc:Cur μ h r h):
  SpecH Tryz.prog 51 [.pointer (some ⟨r,0,none⟩)] μ h fun v μ' h'=>Cur μ' h r h'∧∃s∈libNames,v= .string (mkS s):=by
 refine SpecH.mk [] Tryz.func51 (by kernel_rfl) ?_
 intro r0
 refine aS [0] fun μ4 hle4 hno4 hat4=>?_
 have k:=Rows.sl hat4 (Nm.rows (libNames.map mkS)) (by decide)
 have w_:=Rep.sl k
 obtain⟨bz,cz,ez,hsz⟩:=w_
 have w_:=Value.slice.inj ez
 obtain⟨e1,e2,_⟩:=w_
 rw[List.length_map,List.length_map,←e1]at hsz
 refine .inr ⟨_,tC (L:=libNames) (hc.mono hle4) hsz (by decide) (by decide),fun v μ5 h5 hle5 hap5 hR=>?_⟩
 obtain⟨rfl,hc5,s,hs,rfl⟩:=hR
 exact rPl ⟨hc5,s,hs,rfl⟩
theorem qP{s:Bs}(hs:s∈libNames):∃t p,LibOk t p∧aM Tryz.prog 50 [.string (mkS s)] μ (.string (mkS t)):=by
 simp only[libNames,List.mem_cons,List.not_mem_nil,or_false]at hs
 rcases hs with rfl|rfl|rfl|rfl
 ·have w_:=kL qFr;obtain⟨p,hp⟩:=w_;exact⟨_,p,hp,oK⟩
 ·have w_:=kL qFs;obtain⟨p,hp⟩:=w_;exact⟨_,p,hp,oL⟩
 ·have w_:=kL qFt;obtain⟨p,hp⟩:=w_;exact⟨_,p,hp,oM⟩
 ·have w_:=kL qFu;obtain⟨p,hp⟩:=w_;exact⟨_,p,hp,oN⟩
end
end Go.Vx
namespace Go.Vx
open Go.Proofs Classical
theorem eT{k:Int}{ts:List T}(h0:0≤k)(h6:k≤6)(l2:k=2∨k=3∨k=6→ts.length=2)(l1:k=4∨k=5→ts.length=1)(l0:k=0∨k=1→ts.length=0)(hs:k=6→∀a,(ts.map T.tm)[0]? =some a→a.kind=2)(hok:∀t∈ts,t.ok):TopOk (.mk k ⟨#[]⟩ (ts.map T.tm) []) where
 tm:=fun t ht=>by
  have w_:=List.mem_map.1 ht
  obtain⟨x,hx,rfl⟩:=w_
  exact(hok x hx).tm
 k0:=h0
 k1:=by show k≤10;omega
 nm:=fun _=>rfl
 rel:=fun h=>by have h:k=9:=h;omega
 ln9:=fun h=>by have h:k=9:=h;omega
 ln2:=fun h=>by show(ts.map T.tm).length=2;rw[List.length_map];exact l2 h
 ln1:=fun h=>by show(ts.map T.tm).length=1;rw[List.length_map];exact l1 h
 ln0:=fun h=>by
  show(ts.map T.tm).length=0
  have h:k=0∨k=1∨k=7∨k=8∨k=10:=h
  rw[List.length_map];exact l0 (by omega)
 gl:=Nat.zero_le _
 gl0:=fun _=>rfl
 gl1:=fun h=>by have h:k=10:=h;omega
 sy:=hs
 cl:=fun h=>by have h:k=10:=h;omega
def qAw(h:Mem)(r n:Nat)(v:Value)(μ' h':Mem):Prop:=Cur μ' h r h'∧∃g:Gl,RepV μ' g.d v∧∀sg mode,Dr sg n mode 1 1 g
theorem dQ{k:Int}{ts:List T}{n:Nat}(top:TopOk (.mk k ⟨#[]⟩ (ts.map T.tm) []))(hk:k≤6)(ht:∀t∈ts,∀v,t.occ v→0≤v∧v<(n:Int)):∀sg mode,Dr sg n mode 1 1 (.mk k ⟨#[]⟩ (ts.map T.tm) []):=fun sg mode=>
 Dr.leaf top (by omega) (by omega) (by omega) ht (fun h=>by omega)
section
variable {μ:Mem}
set_option maxHeartbeats 1000000 in
theorem nF{h:Mem}{r:Nat}(hc:Cur μ h r h)(n:Nat)(hn:n≤8)(pure:Bool):
  SpecH Tryz.prog 188 [.pointer (some ⟨r,0,none⟩),.int .i64 n,.bool pure] μ h fun v μ' h'=>qAw h r n v μ' h':=by
 have hB1:lvB 1=1:=by rw[lvB,if_neg (by decide)]
 refine SpecH.mk [] Tryz.func188 (by kernel_rfl) ?_
 intro r6
 refine cOw (cN n (by omega) 1 (by decide) hc) fun v μ1 h1 hle1 hap1 hR=>?_
 obtain⟨hc1,ta,hra,hda⟩:=hR
 rw[hB1]at hda
 have w_:=Tm.invV hra
 obtain⟨pa,rfl⟩:=w_
 intro r7
 refine cOw (cN n (by omega) 4 (by decide) hc1.at) fun v μ2 h2 hle2 hap2 hR=>?_
 obtain⟨hc2,tb,hrb,hdb⟩:=hR
 rw[qPx]at hdb
 have w_:=Tm.invV hrb
 obtain⟨pb,rfl⟩:=w_
 intro r8
 refine cOw (aI hc2.at 16) fun v μ3 h3 hle3 hap3 hR=>?_
 obtain⟨e,hc3,k,rfl,hk,hk16,_⟩:=hR
 obtain rfl:=e.symm
 have hk16:=hk16 (by decide)
 have hc3:=(hc1.trans hc2).trans hc3
 refine iIn (fun hp=>?_) (fun hp=>?_)
 ·intro rs
  refine aS [3] fun μ4 hle4 hno4 hat4=>?_
  refine bM (bC (k:=2) (a:=(some ⟨rs,0,none⟩,2,2)) (b:=(none,0,0))) fun v8 μ8 hle8 hR8=>?_
  obtain⟨rfl,rfl⟩:=hR8
  refine rPl ⟨(hc3.mono hle4),.mk 2 ⟨#[]⟩ ([ta,tb].map T.tm) [],bY (Rows.sl hat4 (.cons (hra.mono ((hle2.trans hle3).trans hle4)) (Tm.d_n _) (Rows.one (hrb.mono (hle3.trans hle4)) (Tm.d_n _))) (by show 2≤_;decide)) (Rep.nilSl 4),dQ (eT (by decide) (by decide) (fun _=>rfl) (fun h=>absurd h (by decide)) (fun h=>absurd h (by decide)) (fun h=>absurd h (by decide)) (fun t ht=>?_)) (by decide) (fun t ht=>?_)⟩
  ·rcases List.mem_cons.1 ht with rfl | ht
   ·exact hda.ok (by omega)
   ·rw[List.mem_singleton.1 ht];exact hdb.ok (by omega)
  ·rcases List.mem_cons.1 ht with rfl | ht
   ·exact hda.low
   ·rw[List.mem_singleton.1 ht];exact hdb.low
 refine iIn (fun hp=>?_) (fun hp=>?_)
 ·intro rs
  refine aS [3] fun μ4 hle4 hno4 hat4=>?_
  refine bM (bC (k:=2) (a:=(some ⟨rs,0,none⟩,2,2)) (b:=(none,0,0))) fun v8 μ8 hle8 hR8=>?_
  obtain⟨rfl,rfl⟩:=hR8
  refine rPl ⟨(hc3.mono hle4),.mk 2 ⟨#[]⟩ ([ta,tb].map T.tm) [],bY (Rows.sl hat4 (.cons (hra.mono ((hle2.trans hle3).trans hle4)) (Tm.d_n _) (Rows.one (hrb.mono (hle3.trans hle4)) (Tm.d_n _))) (by show 2≤_;decide)) (Rep.nilSl 4),dQ (eT (by decide) (by decide) (fun _=>rfl) (fun h=>absurd h (by decide)) (fun h=>absurd h (by decide)) (fun h=>absurd h (by decide)) (fun t ht=>?_)) (by decide) (fun t ht=>?_)⟩
  ·rcases List.mem_cons.1 ht with rfl | ht
   ·exact hda.ok (by omega)
   ·rw[List.mem_singleton.1 ht];exact hdb.ok (by omega)
  ·rcases List.mem_cons.1 ht with rfl | ht
   ·exact hda.low
   ·rw[List.mem_singleton.1 ht];exact hdb.low
 refine ifd (fun h9=>?_) (fun h9=>?_)
 ·intro rs
  refine aS [3] fun μ4 hle4 hno4 hat4=>?_
  refine bM (bC (k:=4) (a:=(some ⟨rs,0,none⟩,1,1)) (b:=(none,0,0))) fun v8 μ8 hle8 hR8=>?_
  obtain⟨rfl,rfl⟩:=hR8
  refine rPl ⟨(hc3.mono hle4),.mk 4 ⟨#[]⟩ ([ta].map T.tm) [],bY (Rows.sl hat4 (Rows.one (hra.mono ((hle2.trans hle3).trans hle4)) (Tm.d_n _)) (by show 1≤_;decide)) (Rep.nilSl 4),dQ (eT (by decide) (by decide) (fun h=>absurd h (by decide)) (fun _=>rfl) (fun h=>absurd h (by decide)) (fun h=>absurd h (by decide)) (fun t ht=>?_)) (by decide) (fun t ht=>?_)⟩
  ·rw[List.mem_singleton.1 ht];exact hda.ok (by omega)
  ·rw[List.mem_singleton.1 ht];exact hda.low
 refine ifd (fun h10=>?_) (fun h10=>?_)
 ·intro rs
  refine aS [3] fun μ4 hle4 hno4 hat4=>?_
  refine bM (bC (k:=5) (a:=(some ⟨rs,0,none⟩,1,1)) (b:=(none,0,0))) fun v8 μ8 hle8 hR8=>?_
  obtain⟨rfl,rfl⟩:=hR8
  refine rPl ⟨(hc3.mono hle4),.mk 5 ⟨#[]⟩ ([ta].map T.tm) [],bY (Rows.sl hat4 (Rows.one (hra.mono ((hle2.trans hle3).trans hle4)) (Tm.d_n _)) (by show 1≤_;decide)) (Rep.nilSl 4),dQ (eT (by decide) (by decide) (fun h=>absurd h (by decide)) (fun _=>rfl) (fun h=>absurd h (by decide)) (fun h=>absurd h (by decide)) (fun t ht=>?_)) (by decide) (fun t ht=>?_)⟩
  ·rw[List.mem_singleton.1 ht];exact hda.ok (by omega)
  ·rw[List.mem_singleton.1 ht];exact hda.low
 refine ifd (fun h11=>?_) (fun h11=>?_)
 ·refine cPl (dT ⟨#[97]⟩) fun v μs hles hRs => ?_
  have w_:=Tm.invV hRs
  obtain⟨ps,rfl⟩:=w_
  intro rs
  refine aS [3] fun μ4 hle4 hno4 hat4=>?_
  refine bM (bC (k:=6) (a:=(some ⟨rs,0,none⟩,2,2)) (b:=(none,0,0))) fun v8 μ8 hle8 hR8=>?_
  obtain⟨rfl,rfl⟩:=hR8
  refine rPl ⟨(hc3.mono hles).mono hle4,.mk 6 ⟨#[]⟩ ([T.sym ⟨#[97]⟩,tb].map T.tm) [],bY (Rows.sl hat4 (.cons (hRs.mono hle4) (Tm.d_n _) (Rows.one (((hrb.mono hle3).mono hles).mono hle4) (Tm.d_n _))) (by show 2≤_;decide)) (Rep.nilSl 4),dQ (eT (by decide) (by decide) (fun _=>rfl) (fun h=>absurd h (by decide)) (fun h=>absurd h (by decide)) (fun _ a ha=>by cases ha;rfl) (fun t ht=>?_)) (by decide) (fun t ht=>?_)⟩
  ·rcases List.mem_cons.1 ht with rfl | ht
   ·exact⟨kZ (by decide),by decide⟩
   ·rw[List.mem_singleton.1 ht];exact hdb.ok (by omega)
  ·rcases List.mem_cons.1 ht with rfl | ht
   ·exact fun v hv=>absurd hv (fun h=>h)
   ·rw[List.mem_singleton.1 ht];exact hdb.low
 refine ifd (fun h12=>?_) (fun h12=>?_)
 ·refine cOw (aI hc3.at 8) fun v μ4 h4 hle4 hap4 hR => ?_
  obtain⟨e4,hc4,k4,rfl,hk4,hk48,_⟩:=hR
  obtain rfl:=e4.symm
  have hk48:=hk48 (by decide)
  refine aC (by decide) ?_
  refine nEq (x:=((k4 / 7:Nat):Int)) (by show IntKind.i64.wrap (Int.tdiv (k4:Int) 7)=_;rw[Int.tdiv_eq_ediv_of_nonneg (by omega),aA (by omega) (by omega)];simp) ?_
  have w_:k4 / 7=0∨k4 / 7=1:=by omega
  rcases w_ with e7|e7
  all_goals
   rw[e7]
   refine cGv (bC (a:=(none,0,0)) (b:=(none,0,0))) ?_
   refine rPl ⟨hc3.trans hc4,.mk _ ⟨#[]⟩ ([].map T.tm) [],bY (Rep.nilSl 4) (Rep.nilSl 4),dQ (eT (by decide) (by decide) (fun h=>absurd h (by decide)) (fun h=>absurd h (by decide)) (fun _=>rfl) (fun h=>absurd h (by decide)) (fun t ht=>by cases ht)) (by decide) (fun t ht=>by cases ht)⟩
 ·intro rs
  refine aS [3] fun μ4 hle4 hno4 hat4=>?_
  refine bM (bC (k:=3) (a:=(some ⟨rs,0,none⟩,2,2)) (b:=(none,0,0))) fun v8 μ8 hle8 hR8=>?_
  obtain⟨rfl,rfl⟩:=hR8
  refine rPl ⟨(hc3.mono hle4),.mk 3 ⟨#[]⟩ ([ta,tb].map T.tm) [],bY (Rows.sl hat4 (.cons (hra.mono ((hle2.trans hle3).trans hle4)) (Tm.d_n _) (Rows.one (hrb.mono (hle3.trans hle4)) (Tm.d_n _))) (by show 2≤_;decide)) (Rep.nilSl 4),dQ (eT (by decide) (by decide) (fun _=>rfl) (fun h=>absurd h (by decide)) (fun h=>absurd h (by decide)) (fun h=>absurd h (by decide)) (fun t ht=>?_)) (by decide) (fun t ht=>?_)⟩
  ·rcases List.mem_cons.1 ht with rfl | ht
   ·exact hda.ok (by omega)
   ·rw[List.mem_singleton.1 ht];exact hdb.ok (by omega)
  ·rcases List.mem_cons.1 ht with rfl | ht
   ·exact hda.low
   ·rw[List.mem_singleton.1 ht];exact hdb.low
end
end Go.Vx
namespace Go.Vx
open Go.Proofs Classical
theorem RowO.ownA{h:Mem}{r cap:Nat}{ty:TypeId}{es:Nat}{xs:List Value}{k:Nat}{x:Value}(hr:RowO h r cap ty es xs)(hx:xs[k]? =some x){ad:Addr}(ha:ad=⟨r,k*es,none⟩):∀i v,(aD x)[i]? =some v→h.cell (ad.add i)=some v:=fun i v hi=>by
 subst ha
 rw[Addr.add_lit']
 exact hr.cell hx hi
theorem RelsO.cur{μ h h':Mem}{r rb cap:Nat}{sg:Sig}{xs:List Value}(k:RelsO h rb cap sg xs)(hne:rb≠r)(hc:Cur μ h r h'):RelsO h' rb cap sg xs:=by
 obtain⟨o,_,rfl⟩:=hc.ex
 exact⟨k.row.set_ne hne,k.len,k.at_⟩
theorem tP{s:ByteArray}{ts:List T}(hs:iJ s)(hl:ts.length≤4)(hok:∀t∈ts,t.ok):TopOk (.mk 9 s (ts.map T.tm) []) where
 tm:=fun t ht=>by
  have w_:=List.mem_map.1 ht
  obtain⟨x,hx,rfl⟩:=w_
  exact(hok x hx).tm
 k0:=by show(0:Int)≤9;decide
 k1:=by show(9:Int)≤10;decide
 nm:=fun h=>absurd rfl h
 rel:=fun _=>hs
 ln9:=fun _=>by show(ts.map T.tm).length≤4;rw[List.length_map];exact hl
 ln2:=fun h=>by have h:(9:Int)=2∨(9:Int)=3∨(9:Int)=6:=h;omega
 ln1:=fun h=>by have h:(9:Int)=4∨(9:Int)=5:=h;omega
 ln0:=fun h=>by have h:(9:Int)=0∨(9:Int)=1∨(9:Int)=7∨(9:Int)=8∨(9:Int)=10:=h;omega
 gl:=Nat.zero_le _
 gl0:=fun _=>rfl
 gl1:=fun h=>by have h:(9:Int)=10:=h;omega
 sy:=fun h=>by have h:(9:Int)=6:=h;omega
 cl:=fun h=>by have h:(9:Int)=10:=h;omega
def qAt(sg:Sig)(n:Nat)(mode:Int)(calls:Nat)(h:Mem)(r:Nat)(v:Value)(μ' h':Mem):Prop:=Cur μ' h r h'∧∃gs:List Gl,gs.length≤2+calls∧(∀g∈gs,Dr sg n mode 2 1 g)∧RepV μ' (Gl.mk 7 ⟨#[]⟩ [] gs).d v
section
variable {μ:Mem}
set_option maxHeartbeats 2000000 in
theorem dH{h:Mem}{r rb cap:Nat}{sg:Sig}{xs:List Value}(hc:Cur μ h r h)(hrel:RelsO h rb cap sg xs)(hne:rb≠r)(hsg:SigOk sg)(n:Nat)(hn:n≤8)(calls:Nat)(hcalls:calls≤2)(mode:Int):
  SpecH Tryz.prog 126 [.pointer (some ⟨r,0,none⟩),.slice (some ⟨rb,0,none⟩) sg.length cap,.int .i64 n,.int .i64 calls,.int .i64 mode] μ h fun v μ' h'=>qAt sg n mode calls h r v μ' h':=by
 refine SpecH.mk [] Tryz.func126 (by kernel_rfl) ?_
 intro r10 r11
 refine cOw (aI hc 2) fun v μ1 h1 hle1 hap1 hR=>?_
 obtain⟨e,hc1,k0,rfl,hk0,hk2,_⟩:=hR
 obtain rfl:=e.symm
 have hk2:=hk2 (by decide)
 refine aB (by omega) (by omega) ?_
 rw[show(1:Int)+(k0:Int)=((1+k0:Nat):Int)from by omega]
 refine aU (fun z:Nat×List Gl×(List Value×Option Nat×Nat)×Mem×Mem=>z.1≤2∧z.2.1.length+z.1≤2∧(∀g∈z.2.1,Dr sg n mode 2 1 g)∧Rows z.2.2.2.1 4 (z.2.1.map Gl.d) z.2.2.1.1∧μ.Le z.2.2.2.1∧Cur z.2.2.2.1 h r z.2.2.2.2)
  (fun (k, _, (ys, b, c), μ', h') => ⟨[(0, .val (.pointer (some ⟨r, 0, none⟩))), (1, .val (.slice (some ⟨rb, 0, none⟩) sg.length cap)), (2, .val (.int .i64 n)), (3, .val (.int .i64 calls)), (4, .val (.int .i64 mode)), (10, .loc 0 r10 0), (11, .loc 1 r11 0), (12, .val (.int .i64 k))],
   [(0,some (.cells r10 [.val (.int .i64 0),.val (.string ⟨#[]⟩),.val (.slice none 0 0),.val (.slice none 0 0)] 61)),(1,some (.cells r11 [.val (.int .i64 7),.val (.string ⟨#[]⟩),.val (.slice none 0 0),.row 2 b ys.length c] 61)),(2,some (.row b c 61 4 ys))],3,μ',h'⟩) (fun z=>z.1)
  (1+k0,[],([],none,0),μ,h1) ⟨by dsimp only;omega,by simp only[List.length_nil];omega,(fun _ hg=>nomatch hg),Rows.nil,Mem.Le.refl _,hc1⟩ (fun(_,_,(_,_,_),_,_)=>⟨rfl,rfl⟩)
  ⟨⟨⟨_,rfl,.inl rfl⟩,⟨_,rfl,.inl rfl⟩,⟨_,rfl,.inl rfl⟩,⟨_,rfl,.inl rfl⟩,⟨_,rfl,.inl rfl⟩,⟨_,rfl,.inl rfl⟩,⟨_,rfl,.inl rfl⟩,⟨_,rfl,.inl rfl⟩,trivial⟩,⟨.inl rfl,.inr (.inr ⟨_,_,_,_,rfl,rfl,.inl rfl,.inl rfl,.inl rfl,.inr ⟨2,rfl,rfl,Nat.le_refl _⟩,trivial⟩),.inr (.inl ⟨_,_,rfl,Nat.le_refl _⟩),trivial⟩,rfl,rfl⟩ ?_
 clear hc1 hap1
 rintro⟨k,gs,⟨ys,b,c⟩,μ1,h1⟩ ⟨hk,hkl,hgs,hrows,hle,hc1⟩
 dsimp only at hk hkl hgs hrows hle hc1
 have hyl:=hrows.len
 rw[List.length_map]at hyl
 refine ifd (fun hlt=>?_) (fun hlt=>?_)
 ·refine cOw (nF hc1.at n hn (decide (mode = 0))) fun v μ2 h2 hle2 hap2 hR => ?_
  obtain⟨hc2,g,hrg,hdg⟩:=hR
  have w_:=Gl.invV hrg
  obtain⟨q,rfl⟩:=w_
  intro rg
  refine gIn ?_ ?_ fun b' c' hb'=>?_
  ·show(ys.length+1)*72≤_;omega
  ·exact Nat.le_trans (m:=100000000) (show ys.length+1≤_ by omega) (by decide)
  refine aB (by omega) (by omega) ⟨(k-1,gs++[g],(_,b',c'),μ2,h2),⟨by dsimp only;omega,by simp only[List.length_append,List.length_singleton];omega,?_,?_,hle.trans hle2,hc1.trans hc2⟩,by dsimp only;omega,⟨⟨rfl,rfl,rfl,rfl,rfl,rfl,rfl,?_,trivial⟩,⟨rfl,rfl,rfl,trivial⟩,rfl,rfl⟩⟩
  ·intro x hx
   rcases List.mem_append.1 hx with hx|hx
   ·exact hgs x hx
   ·rw[List.mem_singleton.1 hx];exact(hdg sg mode).mono (by decide) (by decide)
  ·dsimp only
   rw[List.map_append]
   exact(hrows.mono hle2).append (Rows.one hrg (Gl.d_n _))
  ·show some (SV.val (.int .i64 _)) = some (SV.val (.int .i64 _))
   congr 3;omega
 refine lIn (fun z:Nat×Nat×List Gl×(List Value×Option Nat×Nat)×(List Value×Option Nat×Nat)×Mem×Mem=>z.2.1≤calls∧(z.1=0∨(z.1=1∧z.2.1≤1)∨(z.1=2∧z.2.1=0))∧z.2.2.1.length+z.2.1≤2+calls∧(∀g∈z.2.2.1,Dr sg n mode 2 1 g)∧(∀μ9,z.2.2.2.2.2.1.Le μ9→(z.1≠0→RowAt μ9 z.2.2.2.2.1.2.1 z.2.2.2.2.1.2.2 4 z.2.2.2.2.1.1)→Rows μ9 4 (z.2.2.1.map Gl.d) z.2.2.2.1.1)∧z.2.2.2.1.1.length=z.2.2.1.length∧μ.Le z.2.2.2.2.2.1∧Cur z.2.2.2.2.2.1 h r z.2.2.2.2.2.2)
  (fun (pend, k, _, (ys, b, c), (ys5, b5, c5), μ', h') => ⟨[(0, .val (.pointer (some ⟨r, 0, none⟩))), (1, .val (.slice (some ⟨rb, 0, none⟩) sg.length cap)), (2, .val (.int .i64 n)), (3, .val (.int .i64 k)), (4, .val (.int .i64 mode)), (10, .loc 0 r10 0), (11, .loc 1 r11 0)],
   (0,some (.cells r10 [.val (.int .i64 0),.val (.string ⟨#[]⟩),.val (.slice none 0 0),.val (.slice none 0 0)] 61))::(1,some (.cells r11 [.val (.int .i64 7),.val (.string ⟨#[]⟩),.val (.slice none 0 0),.row 2 b ys.length c] 61))::(2,some (.row b c 61 4 ys))::
   (match pend with|0=>[]|1=>[(5,some (.row b5 c5 75 4 ys5))]|_=>[(8,some (.row b5 c5 75 4 ys5))]),(match pend with|0=>3|1=>6|_=>9),μ',h'⟩) (fun z=>z.2.1)
  (0,calls,gs,(ys,b,c),([],none,0),μ1,h1) ⟨Nat.le_refl _,.inl rfl,by dsimp only;omega,hgs,fun μ9 hle9 _=>hrows.mono hle9,hyl.symm,hle,hc1⟩ (fun(pend,_,_,(_,_,_),(_,_,_),_,_)=>match pend with|0=>⟨rfl,rfl⟩|1=>⟨rfl,rfl⟩|_+2=>⟨rfl,rfl⟩) ⟨⟨rfl,rfl,rfl,rfl,rfl,rfl,rfl,trivial⟩,⟨rfl,rfl,rfl,trivial⟩,rfl,rfl⟩ ?_
 clear hk hkl hgs hrows hle hc1 hyl hlt
 rintro⟨pend,k,gs,⟨ys,b,c⟩,⟨ysp,bp,cp⟩,μ1,h1⟩ ⟨hk,hpend,hkl,hgs,hP,hyl,hle,hc1⟩
 dsimp only at hk hpend hkl hgs hP hyl hle hc1
 have hsl:=hsg.max
 have hsp:=hsg.pos
 rcases hpend with rfl|⟨rfl,hk1⟩|⟨rfl,hk0⟩
 ·have hrows := hP μ1 (Mem.Le.refl _) (fun h => absurd rfl h)
  refine ifd (fun hlt=>?_) (fun hlt=>?_)
  ·refine cOw (aI hc1.at sg.length) fun v μ2 h2 hle2 hap2 hR => ?_
   obtain⟨e,hc2,j,rfl,hj,hj2,_⟩:=hR
   obtain rfl:=e.symm
   have hj2:=hj2 (by omega)
   have hc2:=hc1.trans hc2
   have hrel2:=hrel.cur hne hc2
   obtain⟨q,hq⟩:∃q,sg[j]? =some q:=⟨_,List.getElem?_eq_getElem (by omega)⟩
   have w_:=hrel2.at_ j q hq
   obtain⟨x,hx,lo,kk,s,b1,n1,c1,b2,n2,c2,rfl⟩:=w_
   have hqm:=List.mem_of_getElem? hq
   have har:=hsg.ar q hqm
   refine rX j rfl (by omega) ?_
   refine oIn [.string q.1,.int .i64 q.2,.int .i64 lo,.int .i64 kk,.string s,.slice b1 n1 c1,.slice b2 n2 c2] rfl (hrel2.row.ownA hx rfl) ?_
   intro r13 r14
   refine aU (fun z:Nat×List T×(List Value×Option Nat×Nat)×Mem×Mem=>(z.1:Int)≤q.2∧z.2.1.length=z.1∧(∀t∈z.2.1,Drawn 2 n t)∧Rows z.2.2.2.1 4 ((z.2.1.map T.tm).map Tm.d) z.2.2.1.1∧μ1.Le z.2.2.2.1∧Cur z.2.2.2.1 h r z.2.2.2.2)
    (fun (j', _, (ys5, b5, c5), μ', h') => ⟨[(0, .val (.pointer (some ⟨r, 0, none⟩))), (1, .val (.slice (some ⟨rb, 0, none⟩) sg.length cap)), (2, .val (.int .i64 n)), (3, .val (.int .i64 k)), (4, .val (.int .i64 mode)), (10, .loc 0 r10 0), (11, .loc 1 r11 0), (13, .loc 3 r13 0), (14, .loc 4 r14 0), (15, .val (.int .i64 j'))],
     [(0,some (.cells r10 [.val (.int .i64 0),.val (.string ⟨#[]⟩),.val (.slice none 0 0),.val (.slice none 0 0)] 61)),(1,some (.cells r11 [.val (.int .i64 7),.val (.string ⟨#[]⟩),.val (.slice none 0 0),.row 2 b ys.length c] 61)),(2,some (.row b c 61 4 ys)),
     (3,some (.cells r13 [.val (.string q.1),.val (.int .i64 q.2),.val (.int .i64 lo),.val (.int .i64 kk),.val (.string s),.val (.slice b1 n1 c1),.val (.slice b2 n2 c2)] 63)),(4,some (.cells r14 [.val (.int .i64 9),.val (.string q.1),.row 5 b5 ys5.length c5,.val (.slice none 0 0)] 61)),(5,some (.row b5 c5 75 4 ys5))],6,μ',h'⟩) (fun z=>4-z.1)
    (0,[],([],none,0),μ1,h2) ⟨har.1,rfl,(fun _ hg=>nomatch hg),Rows.nil,Mem.Le.refl _,hc2⟩ (fun(_,_,(_,_,_),_,_)=>⟨rfl,rfl⟩)
    ⟨⟨⟨_,rfl,.inl rfl⟩,⟨_,rfl,.inl rfl⟩,⟨_,rfl,.inl rfl⟩,⟨_,rfl,.inl rfl⟩,⟨_,rfl,.inl rfl⟩,⟨_,rfl,.inl rfl⟩,⟨_,rfl,.inl rfl⟩,⟨_,rfl,.inl rfl⟩,⟨_,rfl,.inl rfl⟩,⟨_,rfl,.inl rfl⟩,trivial⟩,⟨.inl rfl,.inl rfl,.inl rfl,.inl rfl,.inr (.inr ⟨_,_,_,_,rfl,rfl,.inl rfl,.inl rfl,.inr ⟨5,rfl,rfl,Nat.le_refl _⟩,.inl rfl,trivial⟩),.inr (.inl ⟨_,_,rfl,Nat.le_refl _⟩),trivial⟩,rfl,rfl⟩ ?_
   clear hc2 hrel2 hap2 hx
   rintro⟨j',ts,⟨ys5,b5,c5⟩,μ3,h3⟩ ⟨hj',htl,hts,hrows5,hle3,hc3⟩
   dsimp only at hj' htl hts hrows5 hle3 hc3
   have hyl5:=hrows5.len
   rw[List.length_map,List.length_map]at hyl5
   refine ifd (fun hja=>?_) (fun hja=>?_)
   ·refine iIn (fun _ => ?_) (fun h => absurd (of_decide_eq_false h) (fun h => h (by omega)))
    refine cOw (aI hc3.at 4) fun v μ4 h4 hle4 hap4 hR=>?_
    obtain⟨e,hc4,k4,rfl,hk4,hk44,_⟩:=hR
    obtain rfl:=e.symm
    have hk44:=hk44 (by decide)
    refine aC (by decide) ?_
    refine nEq (x:=((k4 / 3:Nat):Int)) (by show IntKind.i64.wrap (Int.tdiv (k4:Int) 3)=_;rw[Int.tdiv_eq_ediv_of_nonneg (by omega),aA (by omega) (by omega)];simp) ?_
    have drawn:∃size:Nat,size≤1000∧1+((k4 / 3:Nat):Int)*2=(size:Int)∧lvB size≤2:=by
     have w_:k4 / 3=0∨k4 / 3=1:=by omega
     rcases w_ with e|e
     ·exact⟨1,by decide,by rw[e];rfl,by rw[lvB,if_neg (by decide)];decide⟩
     ·exact⟨3,by decide,by rw[e];rfl,by rw[xA];decide⟩
    obtain⟨size,hs1,hs2,hs3⟩:=drawn
    refine aB (by omega) (by omega) (aB (by omega) (by omega) ?_)
    rw[hs2]
    refine cOw (cN n (by omega) size hs1 (hc3.trans hc4).at) fun v μ5 h5 hle5 hap5 hR=>?_
    obtain⟨hc5,t,hrt,hdt⟩:=hR
    have w_:=Tm.invV hrt
    obtain⟨pt,rfl⟩:=w_
    intro rt
    refine gIn ?_ ?_ fun b' c' hb'=>?_
    ·show(ys5.length+1)*56≤_;omega
    ·exact Nat.le_trans (m:=100000000) (show ys5.length+1≤_ by omega) (by decide)
    refine aB (by omega) (by omega) ⟨(j'+1,ts++[t],(_,b',c'),μ5,h5),⟨by dsimp only;omega,by simp only[List.length_append,List.length_singleton];omega,?_,?_,hle3.trans hle5,(hc3.trans hc4).trans hc5⟩,by dsimp only;omega,⟨⟨rfl,rfl,rfl,rfl,rfl,rfl,rfl,rfl,rfl,rfl,trivial⟩,⟨rfl,rfl,rfl,rfl,rfl,rfl,trivial⟩,rfl,rfl⟩⟩
    ·intro x hx
     rcases List.mem_append.1 hx with hx|hx
     ·exact hts x hx
     ·rw[List.mem_singleton.1 hx];exact hdt.mono hs3
    ·dsimp only
     rw[List.map_append,List.map_append]
     exact(hrows5.mono hle5).append (Rows.one hrt (Tm.d_n _))
   ·have hlen : (ts.length : Int) = q.2 := by omega
    have hdr:Dr sg n mode 1 1 (.mk 9 q.1 (ts.map T.tm) []):=Dr.leaf (tP (hsg.nm q hqm) (by omega) fun t ht=>(hts t ht).ok (by omega)) (by decide) (by decide) (by decide) (fun t ht=>(hts t ht).low) (fun _=>by rw[hlen];exact hqm)
    have fin:∀{μ6:Mem},μ3.Le μ6→RowAt μ6 b5 c5 4 ys5→RepV μ6 (Gl.mk 9 q.1 (ts.map T.tm) []).d (.agg #[.int .i64 9,.string q.1,.slice (b5.map fun r=>⟨r,0,none⟩) ys5.length c5,.slice none 0 0]):=fun hle6 hat=>
     bY (Rows.sl hat (hrows5.mono hle6) (Nat.le_trans (m:=1000) (by omega) (by decide))) (Rep.nilSl 4)
    refine ifd (fun hm2=>?_) (fun hm2=>?_)
    ·refine cOw (dF hc3.at 3) fun v μ4 h4 hle4 hap4 hR => ?_
     obtain⟨e,hc4,w,rfl⟩:=hR
     obtain rfl:=e.symm
     have hc4:=hc3.trans hc4
     refine mX [5] fun μ6 hle6 hno6 hat6=>⟨fun hb=>?_,fun hb=>?_⟩
     ·intro rs
      refine aS [6] fun μ7 hle7 hno7 hat7=>?_
      refine bM (bC (k:=10) (a:=(none,0,0)) (b:=(some ⟨rs,0,none⟩,1,1))) fun v8 μ8 hle8 hR8=>?_
      obtain⟨rfl,rfl⟩:=hR8
      have hrep:=bY (k:=10) (s:=⟨#[]⟩) (ts:=[]) (gs:=[.mk 9 q.1 (ts.map T.tm) []]) (Rep.nilSl 4) (Rows.sl hat7 (Rows.one ((fin hle6 hat6).mono hle7) (Gl.d_n _)) (by show 1≤_;decide))
      intro rg
      refine gIn ?_ ?_ fun b' c' hb'=>?_
      ·show(ys.length+1)*72≤_;omega
      ·exact Nat.le_trans (m:=100000000) (show ys.length+1≤_ by omega) (by decide)
      refine aB (by omega) (by omega) ⟨(0,k-1,gs++[(.mk 10 ⟨#[]⟩ [] [.mk 9 q.1 (ts.map T.tm) []])],(_,b',c'),([],none,0),_,_),⟨by dsimp only;omega,by dsimp only;omega,by simp only[List.length_append,List.length_singleton];omega,?_,?_,by simp only[List.length_append,List.length_singleton];omega,hle.trans (((hle3.trans hle6).trans hle7)),((hc4.mono hle6).mono hle7)⟩,by dsimp only;omega,⟨⟨rfl,rfl,rfl,?_,rfl,rfl,rfl,trivial⟩,⟨rfl,rfl,rfl,trivial⟩,rfl,rfl⟩⟩
      ·intro x hx
       rcases List.mem_append.1 hx with hx|hx
       ·exact hgs x hx
       ·rw[List.mem_singleton.1 hx];exact(hdr.neg rfl (by omega))
      ·intro μ9 hle9 hat9
       dsimp only at hle9 hat9 ⊢
       rw[List.map_append]
       exact(hrows.mono ((((hle3.trans hle6).trans hle7)).trans hle9)).append (Rows.one ((hrep.mono hle9)) (Gl.d_n _))
      ·show some (SV.val (.int .i64 _)) = some (SV.val (.int .i64 _))
       congr 3;omega
     ·intro rg
      refine gIn ?_ ?_ fun b' c' hb'=>?_
      ·show(ys.length+1)*72≤_;omega
      ·exact Nat.le_trans (m:=100000000) (show ys.length+1≤_ by omega) (by decide)
      refine aB (by omega) (by omega) ⟨(0,k-1,gs++[(.mk 9 q.1 (ts.map T.tm) [])],(_,b',c'),([],none,0),_,_),⟨by dsimp only;omega,by dsimp only;omega,by simp only[List.length_append,List.length_singleton];omega,?_,?_,by simp only[List.length_append,List.length_singleton];omega,hle.trans ((hle3.trans hle6)),(hc4.mono hle6)⟩,by dsimp only;omega,⟨⟨rfl,rfl,rfl,?_,rfl,rfl,rfl,trivial⟩,⟨rfl,rfl,rfl,trivial⟩,rfl,rfl⟩⟩
      ·intro x hx
       rcases List.mem_append.1 hx with hx|hx
       ·exact hgs x hx
       ·rw[List.mem_singleton.1 hx];exact(hdr.mono (by decide) (by decide))
      ·intro μ9 hle9 hat9
       dsimp only at hle9 hat9 ⊢
       rw[List.map_append]
       exact(hrows.mono (((hle3.trans hle6)).trans hle9)).append (Rows.one (((fin hle6 hat6).mono hle9)) (Gl.d_n _))
      ·show some (SV.val (.int .i64 _)) = some (SV.val (.int .i64 _))
       congr 3;omega
    ·intro rg
     refine gIn ?_ ?_ fun b' c' hb'=>?_
     ·show(ys.length+1)*72≤_;omega
     ·exact Nat.le_trans (m:=100000000) (show ys.length+1≤_ by omega) (by decide)
     refine aB (by omega) (by omega) ⟨(1,k-1,gs++[(.mk 9 q.1 (ts.map T.tm) [])],(_,b',c'),(ys5,b5,c5),_,_),⟨by dsimp only;omega,by dsimp only;omega,by simp only[List.length_append,List.length_singleton];omega,?_,?_,by simp only[List.length_append,List.length_singleton];omega,hle.trans (hle3),hc3⟩,by dsimp only;omega,⟨⟨rfl,rfl,rfl,?_,rfl,rfl,rfl,trivial⟩,⟨rfl,rfl,rfl,rfl,trivial⟩,rfl,rfl⟩⟩
     ·intro x hx
      rcases List.mem_append.1 hx with hx|hx
      ·exact hgs x hx
      ·rw[List.mem_singleton.1 hx];exact(hdr.mono (by decide) (by decide))
     ·intro μ9 hle9 hat9
      dsimp only at hle9 hat9 ⊢
      rw[List.map_append]
      exact(hrows.mono ((hle3).trans hle9)).append (Rows.one ((fin hle9 (hat9 (by decide)))) (Gl.d_n _))
     ·show some (SV.val (.int .i64 _)) = some (SV.val (.int .i64 _))
      congr 3;omega
  ·refine rFz [2] fun μ4 hle4 hno4 hat4 => .inl ⟨(hc1).mono hle4, gs, by omega, hgs, ?_⟩
   exact bY (ts:=[]) (Rep.nilSl 4) (Rows.sl hat4 (hrows.mono hle4) (Nat.le_trans (m:=1000) (by omega) (by decide)))
 ·refine mX [5] fun μ0 hle0 hno0 hat0 => ?_
  have hrows:=hP μ0 hle0 (fun _=>hat0)
  have hle:=hle.trans hle0
  have hc1:=hc1.mono hle0
  refine⟨fun hlt=>?_,fun hlt=>?_⟩
  ·have hlt := of_decide_eq_true hlt
   refine cOw (aI hc1.at sg.length) fun v μ2 h2 hle2 hap2 hR=>?_
   obtain⟨e,hc2,j,rfl,hj,hj2,_⟩:=hR
   obtain rfl:=e.symm
   have hj2:=hj2 (by omega)
   have hc2:=hc1.trans hc2
   have hrel2:=hrel.cur hne hc2
   obtain⟨q,hq⟩:∃q,sg[j]? =some q:=⟨_,List.getElem?_eq_getElem (by omega)⟩
   have w_:=hrel2.at_ j q hq
   obtain⟨x,hx,lo,kk,s,b1,n1,c1,b2,n2,c2,rfl⟩:=w_
   have hqm:=List.mem_of_getElem? hq
   have har:=hsg.ar q hqm
   refine rX j rfl (by omega) ?_
   refine oIn [.string q.1,.int .i64 q.2,.int .i64 lo,.int .i64 kk,.string s,.slice b1 n1 c1,.slice b2 n2 c2] rfl (hrel2.row.ownA hx rfl) ?_
   intro r13 r14
   refine aU (fun z:Nat×List T×(List Value×Option Nat×Nat)×Mem×Mem=>(z.1:Int)≤q.2∧z.2.1.length=z.1∧(∀t∈z.2.1,Drawn 2 n t)∧Rows z.2.2.2.1 4 ((z.2.1.map T.tm).map Tm.d) z.2.2.1.1∧μ0.Le z.2.2.2.1∧Cur z.2.2.2.1 h r z.2.2.2.2)
    (fun (j', _, (ys5, b5, c5), μ', h') => ⟨[(0, .val (.pointer (some ⟨r, 0, none⟩))), (1, .val (.slice (some ⟨rb, 0, none⟩) sg.length cap)), (2, .val (.int .i64 n)), (3, .val (.int .i64 k)), (4, .val (.int .i64 mode)), (10, .loc 0 r10 0), (11, .loc 1 r11 0), (13, .loc 6 r13 0), (14, .loc 7 r14 0), (15, .val (.int .i64 j'))],
     [(0,some (.cells r10 [.val (.int .i64 0),.val (.string ⟨#[]⟩),.val (.slice none 0 0),.val (.slice none 0 0)] 61)),(1,some (.cells r11 [.val (.int .i64 7),.val (.string ⟨#[]⟩),.val (.slice none 0 0),.row 2 b ys.length c] 61)),(2,some (.row b c 61 4 ys)),
     (6,some (.cells r13 [.val (.string q.1),.val (.int .i64 q.2),.val (.int .i64 lo),.val (.int .i64 kk),.val (.string s),.val (.slice b1 n1 c1),.val (.slice b2 n2 c2)] 63)),(7,some (.cells r14 [.val (.int .i64 9),.val (.string q.1),.row 8 b5 ys5.length c5,.val (.slice none 0 0)] 61)),(8,some (.row b5 c5 75 4 ys5))],9,μ',h'⟩) (fun z=>4-z.1)
    (0,[],([],none,0),μ0,h2) ⟨har.1,rfl,(fun _ hg=>nomatch hg),Rows.nil,Mem.Le.refl _,hc2⟩ (fun(_,_,(_,_,_),_,_)=>⟨rfl,rfl⟩)
    ⟨⟨⟨_,rfl,.inl rfl⟩,⟨_,rfl,.inl rfl⟩,⟨_,rfl,.inl rfl⟩,⟨_,rfl,.inl rfl⟩,⟨_,rfl,.inl rfl⟩,⟨_,rfl,.inl rfl⟩,⟨_,rfl,.inl rfl⟩,⟨_,rfl,.inl rfl⟩,⟨_,rfl,.inl rfl⟩,⟨_,rfl,.inl rfl⟩,trivial⟩,⟨.inl rfl,.inl rfl,.inl rfl,.inl rfl,.inr (.inr ⟨_,_,_,_,rfl,rfl,.inl rfl,.inl rfl,.inr ⟨8,rfl,rfl,Nat.le_refl _⟩,.inl rfl,trivial⟩),.inr (.inl ⟨_,_,rfl,Nat.le_refl _⟩),trivial⟩,rfl,rfl⟩ ?_
   clear hc2 hrel2 hap2 hx
   rintro⟨j',ts,⟨ys5,b5,c5⟩,μ3,h3⟩ ⟨hj',htl,hts,hrows5,hle3,hc3⟩
   dsimp only at hj' htl hts hrows5 hle3 hc3
   have hyl5:=hrows5.len
   rw[List.length_map,List.length_map]at hyl5
   refine ifd (fun hja=>?_) (fun hja=>?_)
   ·refine iIn (fun _ => ?_) (fun h => absurd (of_decide_eq_false h) (fun h => h (by omega)))
    refine cOw (aI hc3.at 4) fun v μ4 h4 hle4 hap4 hR=>?_
    obtain⟨e,hc4,k4,rfl,hk4,hk44,_⟩:=hR
    obtain rfl:=e.symm
    have hk44:=hk44 (by decide)
    refine aC (by decide) ?_
    refine nEq (x:=((k4 / 3:Nat):Int)) (by show IntKind.i64.wrap (Int.tdiv (k4:Int) 3)=_;rw[Int.tdiv_eq_ediv_of_nonneg (by omega),aA (by omega) (by omega)];simp) ?_
    have drawn:∃size:Nat,size≤1000∧1+((k4 / 3:Nat):Int)*2=(size:Int)∧lvB size≤2:=by
     have w_:k4 / 3=0∨k4 / 3=1:=by omega
     rcases w_ with e|e
     ·exact⟨1,by decide,by rw[e];rfl,by rw[lvB,if_neg (by decide)];decide⟩
     ·exact⟨3,by decide,by rw[e];rfl,by rw[xA];decide⟩
    obtain⟨size,hs1,hs2,hs3⟩:=drawn
    refine aB (by omega) (by omega) (aB (by omega) (by omega) ?_)
    rw[hs2]
    refine cOw (cN n (by omega) size hs1 (hc3.trans hc4).at) fun v μ5 h5 hle5 hap5 hR=>?_
    obtain⟨hc5,t,hrt,hdt⟩:=hR
    have w_:=Tm.invV hrt
    obtain⟨pt,rfl⟩:=w_
    intro rt
    refine gIn ?_ ?_ fun b' c' hb'=>?_
    ·show(ys5.length+1)*56≤_;omega
    ·exact Nat.le_trans (m:=100000000) (show ys5.length+1≤_ by omega) (by decide)
    refine aB (by omega) (by omega) ⟨(j'+1,ts++[t],(_,b',c'),μ5,h5),⟨by dsimp only;omega,by simp only[List.length_append,List.length_singleton];omega,?_,?_,hle3.trans hle5,(hc3.trans hc4).trans hc5⟩,by dsimp only;omega,⟨⟨rfl,rfl,rfl,rfl,rfl,rfl,rfl,rfl,rfl,rfl,trivial⟩,⟨rfl,rfl,rfl,rfl,rfl,rfl,trivial⟩,rfl,rfl⟩⟩
    ·intro x hx
     rcases List.mem_append.1 hx with hx|hx
     ·exact hts x hx
     ·rw[List.mem_singleton.1 hx];exact hdt.mono hs3
    ·dsimp only
     rw[List.map_append,List.map_append]
     exact(hrows5.mono hle5).append (Rows.one hrt (Tm.d_n _))
   ·have hlen : (ts.length : Int) = q.2 := by omega
    have hdr:Dr sg n mode 1 1 (.mk 9 q.1 (ts.map T.tm) []):=Dr.leaf (tP (hsg.nm q hqm) (by omega) fun t ht=>(hts t ht).ok (by omega)) (by decide) (by decide) (by decide) (fun t ht=>(hts t ht).low) (fun _=>by rw[hlen];exact hqm)
    have fin:∀{μ6:Mem},μ3.Le μ6→RowAt μ6 b5 c5 4 ys5→RepV μ6 (Gl.mk 9 q.1 (ts.map T.tm) []).d (.agg #[.int .i64 9,.string q.1,.slice (b5.map fun r=>⟨r,0,none⟩) ys5.length c5,.slice none 0 0]):=fun hle6 hat=>
     bY (Rows.sl hat (hrows5.mono hle6) (Nat.le_trans (m:=1000) (by omega) (by decide))) (Rep.nilSl 4)
    refine ifd (fun hm2=>?_) (fun hm2=>?_)
    ·refine cOw (dF hc3.at 3) fun v μ4 h4 hle4 hap4 hR => ?_
     obtain⟨e,hc4,w,rfl⟩:=hR
     obtain rfl:=e.symm
     have hc4:=hc3.trans hc4
     refine mX [8] fun μ6 hle6 hno6 hat6=>⟨fun hb=>?_,fun hb=>?_⟩
     ·intro rs
      refine aS [9] fun μ7 hle7 hno7 hat7=>?_
      refine bM (bC (k:=10) (a:=(none,0,0)) (b:=(some ⟨rs,0,none⟩,1,1))) fun v8 μ8 hle8 hR8=>?_
      obtain⟨rfl,rfl⟩:=hR8
      have hrep:=bY (k:=10) (s:=⟨#[]⟩) (ts:=[]) (gs:=[.mk 9 q.1 (ts.map T.tm) []]) (Rep.nilSl 4) (Rows.sl hat7 (Rows.one ((fin hle6 hat6).mono hle7) (Gl.d_n _)) (by show 1≤_;decide))
      intro rg
      refine gIn ?_ ?_ fun b' c' hb'=>?_
      ·show(ys.length+1)*72≤_;omega
      ·exact Nat.le_trans (m:=100000000) (show ys.length+1≤_ by omega) (by decide)
      refine aB (by omega) (by omega) ⟨(0,k-1,gs++[(.mk 10 ⟨#[]⟩ [] [.mk 9 q.1 (ts.map T.tm) []])],(_,b',c'),([],none,0),_,_),⟨by dsimp only;omega,by dsimp only;omega,by simp only[List.length_append,List.length_singleton];omega,?_,?_,by simp only[List.length_append,List.length_singleton];omega,hle.trans (((hle3.trans hle6).trans hle7)),((hc4.mono hle6).mono hle7)⟩,by dsimp only;omega,⟨⟨rfl,rfl,rfl,?_,rfl,rfl,rfl,trivial⟩,⟨rfl,rfl,rfl,trivial⟩,rfl,rfl⟩⟩
      ·intro x hx
       rcases List.mem_append.1 hx with hx|hx
       ·exact hgs x hx
       ·rw[List.mem_singleton.1 hx];exact(hdr.neg rfl (by omega))
      ·intro μ9 hle9 hat9
       dsimp only at hle9 hat9 ⊢
       rw[List.map_append]
       exact(hrows.mono ((((hle3.trans hle6).trans hle7)).trans hle9)).append (Rows.one ((hrep.mono hle9)) (Gl.d_n _))
      ·show some (SV.val (.int .i64 _)) = some (SV.val (.int .i64 _))
       congr 3;omega
     ·intro rg
      refine gIn ?_ ?_ fun b' c' hb'=>?_
      ·show(ys.length+1)*72≤_;omega
      ·exact Nat.le_trans (m:=100000000) (show ys.length+1≤_ by omega) (by decide)
      refine aB (by omega) (by omega) ⟨(0,k-1,gs++[(.mk 9 q.1 (ts.map T.tm) [])],(_,b',c'),([],none,0),_,_),⟨by dsimp only;omega,by dsimp only;omega,by simp only[List.length_append,List.length_singleton];omega,?_,?_,by simp only[List.length_append,List.length_singleton];omega,hle.trans ((hle3.trans hle6)),(hc4.mono hle6)⟩,by dsimp only;omega,⟨⟨rfl,rfl,rfl,?_,rfl,rfl,rfl,trivial⟩,⟨rfl,rfl,rfl,trivial⟩,rfl,rfl⟩⟩
      ·intro x hx
       rcases List.mem_append.1 hx with hx|hx
       ·exact hgs x hx
       ·rw[List.mem_singleton.1 hx];exact(hdr.mono (by decide) (by decide))
      ·intro μ9 hle9 hat9
       dsimp only at hle9 hat9 ⊢
       rw[List.map_append]
       exact(hrows.mono (((hle3.trans hle6)).trans hle9)).append (Rows.one (((fin hle6 hat6).mono hle9)) (Gl.d_n _))
      ·show some (SV.val (.int .i64 _)) = some (SV.val (.int .i64 _))
       congr 3;omega
    ·intro rg
     refine gIn ?_ ?_ fun b' c' hb'=>?_
     ·show(ys.length+1)*72≤_;omega
     ·exact Nat.le_trans (m:=100000000) (show ys.length+1≤_ by omega) (by decide)
     refine aB (by omega) (by omega) ⟨(2,k-1,gs++[(.mk 9 q.1 (ts.map T.tm) [])],(_,b',c'),(ys5,b5,c5),_,_),⟨by dsimp only;omega,by dsimp only;omega,by simp only[List.length_append,List.length_singleton];omega,?_,?_,by simp only[List.length_append,List.length_singleton];omega,hle.trans (hle3),hc3⟩,by dsimp only;omega,⟨⟨rfl,rfl,rfl,?_,rfl,rfl,rfl,trivial⟩,⟨rfl,rfl,rfl,rfl,trivial⟩,rfl,rfl⟩⟩
     ·intro x hx
      rcases List.mem_append.1 hx with hx|hx
      ·exact hgs x hx
      ·rw[List.mem_singleton.1 hx];exact(hdr.mono (by decide) (by decide))
     ·intro μ9 hle9 hat9
      dsimp only at hle9 hat9 ⊢
      rw[List.map_append]
      exact(hrows.mono ((hle3).trans hle9)).append (Rows.one ((fin hle9 (hat9 (by decide)))) (Gl.d_n _))
     ·show some (SV.val (.int .i64 _)) = some (SV.val (.int .i64 _))
      congr 3;omega
  ·refine rFz [2] fun μ4 hle4 hno4 hat4 => .inl ⟨(hc1).mono hle4, gs, by omega, hgs, ?_⟩
   exact bY (ts:=[]) (Rep.nilSl 4) (Rows.sl hat4 (hrows.mono hle4) (Nat.le_trans (m:=1000) (by omega) (by decide)))
 ·refine mX [8] fun μ0 hle0 hno0 hat0 => ?_
  have hrows:=hP μ0 hle0 (fun _=>hat0)
  have hle:=hle.trans hle0
  have hc1:=hc1.mono hle0
  refine⟨fun hlt=>absurd (of_decide_eq_true hlt) (by omega),fun hlt=>?_⟩
  ·refine rFz [2] fun μ4 hle4 hno4 hat4 => .inl ⟨(hc1).mono hle4, gs, by omega, hgs, ?_⟩
   exact bY (ts:=[]) (Rep.nilSl 4) (Rows.sl hat4 (hrows.mono hle4) (Nat.le_trans (m:=1000) (by omega) (by decide)))
end
end Go.Vx
namespace Go.Vx
open Go.Proofs Classical
def lD(q:Tr):Value:= .agg #[.string q.1,.int .i64 q.2.1,.int .i64 q.2.2,.int .i64 0,.string ⟨#[]⟩,.slice none 0 0,.slice none 0 0]
theorem Cur.ne{μ h:Mem}{r rb:Nat}(hc:Cur μ h r h)(hn:h rb=none):rb≠r:=fun e=>by
 obtain⟨o,_,h2⟩:=hc.ex
 rw[h2,e,Mem.set_at]at hn
 cases hn
theorem RowGiven.rowO{h h':Mem}{rb cap:Nat}{ty:TypeId}{es:Nat}{xs:List Value}(k:RowGiven h h' (some rb) cap ty es xs):h rb=none∧RowO h' rb cap ty es xs∧∃o,h'=h.set rb o:=by
 obtain⟨h1,h2,h3,h4,cs,rfl,h5,h6⟩:=k
 exact⟨h1,⟨cs,Mem.set_at _ _ _,h2,h3,h4,h5,h6⟩,_,rfl⟩
theorem Trs.sig{qs:List Tr}(h:Trs qs)(h1:1≤qs.length)(h3:qs.length≤3):SigOk (sgT qs) where
 pos:=by rw[sgT,List.length_map];exact h1
 max:=by rw[sgT,List.length_map];exact h3
 nm:=fun q hq=>by
  have w_:=List.mem_map.1 hq
  obtain⟨t,ht,rfl⟩:=w_
  have w_:=List.getElem?_of_mem ht
  obtain⟨j,hj⟩:=w_
  have:=(List.getElem?_eq_some_iff.1 hj).1
  rw[h.nm j t hj]
  exact qIt (by omega)
 ar:=fun q hq=>by
  have w_:=List.mem_map.1 hq
  obtain⟨t,ht,rfl⟩:=w_
  have:=h.ar t ht
  exact⟨by dsimp only;omega,by dsimp only;omega⟩
theorem qKp(q:Tr):RelV (q.1,q.2.1) (lD q):=⟨q.2.2,0,⟨#[]⟩,none,0,0,none,0,0,rfl⟩
theorem fI{μ h h':Mem}{r r5 cap:Nat}{ty:TypeId}{es:Nat}{xs:List Value}(k:RowO h r5 cap ty es xs)(hne:r5≠r)(hc:Cur μ h r h'):RowO h' r5 cap ty es xs:=by
 obtain⟨o,_,rfl⟩:=hc.ex
 exact k.set_ne hne
theorem iC{μ g h h':Mem}{r:Nat}(k:g.Le h)(hr:g r=none)(hc:Cur μ h r h'):g.Le h':=by
 obtain⟨o,_,rfl⟩:=hc.ex
 exact eD k hr
theorem RowO.alone{h g:Mem}{r cap:Nat}{ty:TypeId}{es:Nat}{xs:List Value}(k:RowO h r cap ty es xs):∃o,h r=some o∧RowO (g.set r o) r cap ty es xs:=by
 obtain⟨cs,h1,h2⟩:=k
 exact⟨_,h1,cs,Mem.set_at _ _ _,h2⟩
section
variable {μ:Mem}
set_option maxHeartbeats 2000000 in
theorem gK{h:Mem}{r:Nat}(hc:Cur μ h r h)(mode:Int):
  SpecH Tryz.prog 55 [.pointer (some ⟨r,0,none⟩),.int .i64 mode] μ h fun v μ' _=>∃l,DrP mode l∧RepV μ' (Pg.mk l).d v:=by
 refine SpecH.mk [56] Tryz.func55 (by kernel_rfl) ?_
 intro r4 r5_ rn
 refine aS [2] fun μ0 hle0 hno0 hat0=>lC (aI (hc.mono hle0) 3) fun v μ1 h1 hle1 hap1 hR=>?_
 obtain⟨e,hc1,k0,rfl,-,hk3,-⟩:=hR
 obtain rfl:=e.symm
 have hk3:=hk3 (by decide)
 have kn:=Rows.sl hat0 (Nm.rows ([[112],[113],[114]].map mkS)) (by decide)
 have w_:=Rep.sl kn
 obtain⟨bz,cz,ez,hsz⟩:=w_
 have w_:=Value.slice.inj ez
 obtain⟨e1,e2,_⟩:=w_
 rw[List.length_map,List.length_map,←e1]at hsz
 have hsz:Sl μ0 1 (some ⟨rn,0,none⟩) 3 (([[112],[113],[114]].map mkS).map D.s):=hsz
 have hhd:=hsz.headL (c:=3) (i:=1+k0) (by omega)
 rw[←List.map_take]at hhd
 refine aB (by omega) (by omega) ?_
 refine aG 0 (1+k0) rfl (by omega) (by omega) (by omega) ?_
 refine aU (fun z:Nat×List Tr×(List Value×Option Nat×Nat)×Mem×Mem=>z.1≤1+k0∧z.2.1.length=z.1∧Trs z.2.1∧z.2.2.1.1=z.2.1.map lD∧(z.2.2.1.2.1=none→z.2.2.1.1=[])∧μ0.Le z.2.2.2.1∧Cur z.2.2.2.1 h r z.2.2.2.2)
  (fun (i, _, (ys, b, c), μ', h') => ⟨[(0, .val (.pointer (some ⟨r, 0, none⟩))), (1, .val (.int .i64 mode)), (4, .loc 0 r4 0), (5, .loc 1 r5_ 0), (18, .val (.slice (if 3 = 0 then some ⟨rn, 0, none⟩ else (some (⟨rn, 0, none⟩ : Addr)).map (·.add (0 * 1))) (1 + k0 - 0) 3)), (19, .val (.int .i64 ((1 + k0 - 0 : Nat) : Int))), (20, .val (.int .i64 i))],
   [(0,some (.cells r4 [.val (.slice none 0 0)] 25)),(1,some (.cells r5_ [.row 3 b ys.length c] 25)),(3,some (.row b c 63 7 ys))],4,μ',h'⟩) (fun z=>1+k0-z.1)
  (0,[],([],none,0),μ0,h1) ⟨Nat.zero_le _,rfl,⟨(fun _ _ h=>nomatch h),(fun _ h=>nomatch h),(fun _ h=>nomatch h)⟩,rfl,fun _=>rfl,Mem.Le.refl _,hc1⟩ (fun(_,_,(_,_,_),_,_)=>⟨rfl,rfl⟩)
  ⟨⟨⟨_,rfl,.inl rfl⟩,⟨_,rfl,.inl rfl⟩,⟨_,rfl,.inl rfl⟩,⟨_,rfl,.inl rfl⟩,⟨_,rfl,.inl rfl⟩,⟨_,rfl,.inl rfl⟩,⟨_,rfl,.inl rfl⟩,trivial⟩,⟨.inl rfl,.inr (.inr ⟨_,_,_,_,rfl,rfl,.inr ⟨3,rfl,rfl,Nat.le_refl _⟩,trivial⟩),.inr (.inl ⟨_,_,rfl,Nat.le_refl _⟩),trivial⟩,rfl,rfl⟩ ?_
 clear hc1 hap1
 rintro⟨i,qs,⟨ys,b,c⟩,μ1,h1⟩ ⟨hi,hql,hT,hys,hbn,hle,hc1⟩
 dsimp only at hi hql hT hys hbn hle hc1
 have hyl:ys.length=qs.length:=by rw[hys,List.length_map]
 refine ifd (fun hlt=>?_) (fun hlt=>?_)
 ·have hi3 : i < 3 := by omega
  have w_:i=0∨i=1∨i=2:=by omega
  have hnm:=Nm.elem (s:=nmI i) (hhd.mono hle) (i:=i) (by
   rw[List.getElem?_take,if_pos (by omega)]
   rcases w_ with rfl|rfl|rfl<;>rfl)
  obtain⟨ad,hel⟩:=hnm
  refine eIn hel ?_
  refine cOw (aI hc1.at 2) fun v μ2 h2 hle2 hap2 hR=>?_
  obtain⟨e,hc2,ka,rfl,-,hka,-⟩:=hR
  obtain rfl:=e.symm
  have hka:=hka (by decide)
  refine aB (by omega) (by omega) ?_
  refine cOw (aI (hc1.trans hc2).at 2) fun v μ2 h3 hle3 hap3 hR=>?_
  obtain⟨e,hc3,kl,rfl,-,hkl,-⟩:=hR
  obtain rfl:=e.symm
  have hkl:=hkl (by decide)
  intro rs
  refine gIn ?_ ?_ fun b' c' hb'=>?_
  ·show(ys.length+1)*104≤_;omega
  ·exact Nat.le_trans (m:=100000000) (show ys.length+1≤_ by omega) (by decide)
  refine aB (by omega) (by omega) ⟨(i+1,qs++[(nmI i,1+(ka:Int),(kl:Int))],(_,b',c'),μ1,h3),⟨by dsimp only;omega,by simp only[List.length_append,List.length_singleton];omega,⟨fun j q hq=>?_,fun q hq=>?_,fun q hq=>?_⟩,?_,fun e=>absurd (hb' e) (by simp),hle,(hc1.trans hc2).trans hc3⟩,by dsimp only;omega,⟨⟨rfl,rfl,rfl,rfl,rfl,rfl,rfl,trivial⟩,⟨rfl,rfl,rfl,trivial⟩,rfl,rfl⟩⟩
  ·dsimp only at hq
   rw[List.getElem?_append]at hq
   split at hq
   ·exact hT.nm j q hq
   ·rename_i hj
    have w_:=List.getElem?_eq_some_iff.1 hq
    obtain⟨h1',h2'⟩:=w_
    rw[List.length_singleton]at h1'
    have ej:j-qs.length=0:=by omega
    rw[ej]at hq
    cases hq
    have:j=i:=by omega
    rw[this]
  ·rcases List.mem_append.1 hq with hq | hq
   ·exact hT.ar q hq
   ·rw[List.mem_singleton.1 hq];dsimp only;omega
  ·rcases List.mem_append.1 hq with hq | hq
   ·exact hT.lo q hq
   ·rw[List.mem_singleton.1 hq];dsimp only;omega
  ·dsimp only
   rw[hys,List.map_append]
   rfl
 ·obtain⟨rb,rfl⟩:∃rb,b=some rb:=by
   cases b with
   |none=>
    have:=hbn rfl
    rw[this]at hyl
    simp only[List.length_nil]at hyl
    omega
   |some rb=>exact⟨rb,rfl⟩
  have hsig:=hT.sig (by omega) (by omega)
  have hys3:ys.length≤3:=by omega
  have hys1:1≤ys.length:=by omega
  have hsl:(sgT qs).length=ys.length:=by rw[sgT,List.length_map,hyl]
  refine lIn (fun z:Nat×List Rl×List Value×Mem×Mem=>DrI μ1 qs ys r rb c mode z.1 z.2.1 z.2.2.1 z.2.2.2.1 z.2.2.2.2)
   (fun (i, _, _, μ', h') => ⟨[(0, .val (.pointer (some ⟨r, 0, none⟩))), (1, .val (.int .i64 mode)), (4, .loc 0 r4 0), (5, .loc 1 r5_ 0), (38, .row 3 (some rb) ys.length c), (39, .val (.int .i64 ys.length)), (40, .val (.int .i64 i))],
    (0,some (.cells r4 [.val (.slice none 0 0)] 25))::(1,some (.cells r5_ [.row 3 (some rb) ys.length c] 25))::(match i with|0=>[(3,some (.row (some rb) c 63 7 ys))]|_+1=>[]),4,μ',h'⟩) (fun z=>ys.length-z.1)
   (0,[],ys,μ1,h1) ⟨Nat.zero_le _,Mem.Le.refl _,rfl,hc1.at,fun _=>rfl,fun h=>absurd h (by omega),rfl,fun _ _=>rfl,⟨Mem.nil,(fun _ _ h=>nomatch h),rfl,rfl,Rows.nil⟩,fun _ _ _ h=>nomatch h⟩ (fun(i,_,_,_,_)=>match i with|0=>⟨rfl,rfl⟩|_+1=>⟨rfl,rfl⟩)
   ⟨⟨rfl,rfl,rfl,rfl,rfl,rfl,rfl,trivial⟩,⟨rfl,rfl,rfl,trivial⟩,rfl,rfl⟩ ?_
  clear hi hlt
  rintro⟨i,ls,xs,μ2,h2⟩ hDI
  dsimp only at hDI
  obtain⟨hi,hle1,hll,hc2,hx0,hpos,hxl,hxy,⟨hB,hBl,hBr,hBrb,hrows⟩,hgood⟩:=id hDI
  have hle:=hle1
  refine ifd (fun hlt=>?_) (fun hlt=>?_)
  ·obtain ⟨q, hq⟩ : ∃ q, qs[i]? = some q := ⟨_, List.getElem?_eq_getElem (by omega)⟩
   have hqm:=List.mem_of_getElem? hq
   have hqa:=hT.ar q hqm
   have hqo:=hT.lo q hqm
   have hxi:xs[i]? =some (lD q):=by rw[hxy i (Nat.le_refl _),hys,List.getElem?_map,hq];rfl
   obtain⟨n,hn⟩:∃n:Nat,q.2.1+q.2.2=(n:Int):=⟨(q.2.1+q.2.2).toNat,by omega⟩
   match i with
   |0=>
    have hxe:=hx0 rfl
    have hxi0:ys[0]? =some (lD q):=by rw[←hxe];exact hxi
    refine aX 0 rfl (by omega) (aW (lD q) hxi0 ?_)
    intro r9
    refine aB (by omega) (by omega) ?_
    rw[hn]
    refine mO [] [3] (fun h=>nomatch h) fun h3 hno hgv=>?_
    have w_:=hgv.rowO
    obtain⟨hrbn,hrow,o,rfl⟩:=w_
    have hne:=hc2.ne hrbn
    have hRO:RelsO (h2.set rb o) rb c (sgT qs) xs:=by
     rw[hxe]
     exact⟨hrow,by rw[hsl],fun j q' hq'=>by
     rw[sgT,List.getElem?_map]at hq'
     have w_:=Option.map_eq_some_iff.1 hq'
     obtain⟨q2,h1',rfl⟩:=w_
     exact⟨lD q2,by rw[hys,List.getElem?_map,h1'];rfl,qKp q2⟩⟩
    have hcl:=dH (hc2.other hne (o':=o)) hRO hne hsig n (by omega) 0 (by decide) mode
    rw[hsl]at hcl
    refine lC hcl fun v μ3 h3 hle3 hap3 hR=>?_
    obtain⟨hc3,gs0,hgl,hgd,hgr⟩:=hR
    have w_:=Gl.invV hgr
    obtain⟨p0,rfl⟩:=w_
    have hRO3:=hRO.cur hne hc3
    have hBl3:hB.Le h3:=by
     have w_:=hc3.ex
     obtain⟨o3,_,e3⟩:=w_
     rw[e3]
     exact eD (eD hBl hBrb) hBr
    have hc3:=hc3.at
    have hd0:=(Dr.conj hgd (by omega)).mono (m':=9) (b':=1) (by omega) (Nat.le_refl _)
    intro rs hms hos
    have hos:h3 rs=none:=hos
    have hr5:rs≠r:=hc3.ne hos
    have hr5b:rs≠rb:=fun e=>by
     have w_:=hRO3.row.obj
     obtain⟨cs,hcs⟩:=w_
     rw[e,hcs]at hos
     cases hos
    have hrow0:RowO (h3.set rs (.cells [Value.int .i64 7,.string ⟨#[]⟩,.slice p0.1.1 0 p0.1.2,.slice p0.2.1 gs0.length p0.2.2].toArray 61 (0,0))) rs 1 61 4 [.agg #[.int .i64 7,.string ⟨#[]⟩,.slice p0.1.1 0 p0.1.2,.slice p0.2.1 gs0.length p0.2.2]]:=
     ⟨_,Mem.set_at _ _ _,Nat.le_refl _,by show 1≤_;decide,fun x hx=>by rw[List.mem_singleton.1 hx];exact⟨rfl,by simp[aD,Value.oneCell']⟩,rfl,by simp[aD]⟩
    intro r11
    refine cOw (aI (hc3.other hr5) 3) fun v μ4 h4 hle4 hap4 hR=>?_
    obtain⟨e,hc4,k3,rfl,-,hk33,-⟩:=hR
    obtain rfl:=e.symm
    have hk33:=hk33 (by decide)
    have hRO4:RelsO h4 rb c (sgT qs) xs:=RelsO.cur ⟨hRO3.row.set_ne hr5b.symm,hRO3.len,hRO3.at_⟩ hne hc4
    have hrow0:=fI hrow0 hr5 hc4
    have hBl4:hB.Le h4:=iC (eD hBl3 (jC hBl3 hos)) hBr hc4
    refine lIn (fun z:Nat×List Gl×List Value×(Nat×Nat)×Mem×Mem=>z.1≤2∧z.2.1.length+z.1≤3∧z.2.1≠[]∧(∀g∈z.2.1,Dr (sgT qs) n mode 9 1 g)∧RowO z.2.2.2.2.2 z.2.2.2.1.1 z.2.2.2.1.2 61 4 z.2.2.1∧Rows z.2.2.2.2.1 4 (z.2.1.map Gl.d) z.2.2.1∧μ3.Le z.2.2.2.2.1∧Cur z.2.2.2.2.1 z.2.2.2.2.2 r z.2.2.2.2.2∧Apart z.2.2.2.2.1 z.2.2.2.2.2∧z.2.2.2.1.1≠r∧z.2.2.2.1.1≠rb∧RelsO z.2.2.2.2.2 rb c (sgT qs) xs∧hB.Le z.2.2.2.2.2∧hB z.2.2.2.1.1=none)
     (fun (k, _, us, (r5, c5), μ', h') => ⟨[(0, .val (.pointer (some ⟨r, 0, none⟩))), (1, .val (.int .i64 mode)), (4, .loc 0 r4 0), (5, .loc 1 r5_ 0), (8, .val (.int .i64 ((0 : Nat) : Int))), (10, .val (.int .i64 n)), (11, .loc 5 r11 0), (12, .val (.int .i64 k)), (38, .row 3 (some rb) ys.length c), (39, .val (.int .i64 ys.length)), (40, .val (.int .i64 ((0 : Nat) : Int)))],
      [(0,some (.cells r4 [.val (.slice none 0 0)] 25)),(1,some (.cells r5_ [.row 3 (some rb) ys.length c] 25)),(5,some (.cells r11 [.val (.int .i64 8),.val (.string ⟨#[]⟩),.val (.slice none 0 0),.val (.slice (some ⟨r5,0,none⟩) us.length c5)] 61))],6,μ',h'⟩) (fun z=>z.1)
     (k3,[.mk 7 ⟨#[]⟩ [] gs0],[.agg #[.int .i64 7,.string ⟨#[]⟩,.slice p0.1.1 0 p0.1.2,.slice p0.2.1 gs0.length p0.2.2]],(rs,1),μ3,h4) ⟨by dsimp only;omega,by simp only[List.length_singleton];omega,(fun e=>nomatch e),(fun g hg=>by rw[List.mem_singleton.1 hg];exact hd0),hrow0,Rows.one hgr (Gl.d_n _),Mem.Le.refl _,hc4.at,hap4,hr5,hr5b,hRO4,hBl4,jC hBl3 hos⟩ (fun(_,_,_,(_,_),_,_)=>⟨rfl,rfl⟩)
     ⟨⟨rfl,rfl,rfl,rfl,rfl,rfl,rfl,rfl,rfl,rfl,rfl,trivial⟩,⟨rfl,rfl,rfl,trivial⟩,rfl,rfl⟩ ?_
    clear hc4 hap4 hRO4 hBl4 hrow0 hr5 hr5b
    rintro⟨k,gs,us,⟨r5,c5⟩,μ6,h6⟩ ⟨hk,hkl,hgne,hgs,hrow6,hrow5,hle6,hc6,hap6,hr5,hr5b,hRO6,hBl6,hB5⟩
    dsimp only at hk hkl hgne hgs hrow6 hrow5 hle6 hc6 hap6 hr5 hr5b hRO6 hBl6 hB5
    have hul:=hrow5.len
    rw[List.length_map]at hul
    refine ifd (fun hkp=>?_) (fun hkz=>?_)
    ·refine cOw (aI hc6 5) fun v μ7 h7 hle7 hap7 hR => ?_
     obtain⟨e,hc7,k5,rfl,-,hk55,-⟩:=hR
     obtain rfl:=e.symm
     have hk55:=hk55 (by decide)
     have hrow7:=fI hrow6 hr5 hc7
     have hRO7:=hRO6.cur hne hc7
     have hBl7:=iC hBl6 hBr hc7
     refine aC (by decide) ?_
     refine nEq (x:=((k5 / 2:Nat):Int)) (by show IntKind.i64.wrap (Int.tdiv (k5:Int) 2)=_;rw[Int.tdiv_eq_ediv_of_nonneg (by omega),aA (by omega) (by omega)];simp) ?_
     have hcl5:=dH hc7.at hRO7 hne hsig n (by omega) (k5 / 2) (by omega) mode
     rw[hsl]at hcl5
     refine cOw hcl5 fun v μ8 h8 hle8 hap8 hR=>?_
     obtain⟨hc8,gs8,hgl8,hgd8,hgr8⟩:=hR
     have w_:=Gl.invV hgr8
     obtain⟨p8,rfl⟩:=w_
     have hd8:=(Dr.conj hgd8 (by omega)).mono (m':=9) (b':=1) (by omega) (Nat.le_refl _)
     have hrow8:=fI hrow7 hr5 hc8
     have hRO8:=hRO7.cur hne hc8
     have hBl8:=iC hBl7 hBr hc8
     have hc8:=hc8.at
     intro rg
     refine fM us rfl hrow8 ?_ ?_ fun r9' c9 o9 hrow9 hor=>?_
     ·show(us.length+1)*72≤_;omega
     ·exact Nat.le_trans (m:=100000000) (show us.length+1≤_ by omega) (by decide)
     have hn1:r9'≠r:=hor.elim (fun e=>by rw[e];exact hr5) fun e=>hc8.ne e.1
     have hn2:r9'≠rb:=hor.elim (fun e=>by rw[e];exact hr5b) fun e e2=>by
      have w_:=hRO8.row.obj
      obtain⟨cs,hcs⟩:=w_
      have e1:h8 r9'=none:=e.1
      rw[e2,hcs]at e1
      cases e1
     have hn3:hB r9'=none:=hor.elim (fun e=>by rw[e];exact hB5) fun e=>jC hBl8 e.1
     refine aB (by omega) (by omega) ⟨(k-1,gs++[.mk 7 ⟨#[]⟩ [] gs8],_,(r9',c9),μ8,_),⟨by dsimp only;omega,by simp only[List.length_append,List.length_singleton];omega,by simp,?_,hrow9,?_,hle6.trans hle8,hc8.other hn1,hap8.set (kA hrow8 hap8 hor),hn1,hn2,⟨hRO8.row.set_ne hn2.symm,hRO8.len,hRO8.at_⟩,eD hBl8 hn3,hn3⟩,by dsimp only;omega,⟨⟨rfl,rfl,rfl,rfl,rfl,rfl,rfl,?_,rfl,rfl,rfl,trivial⟩,⟨rfl,rfl,?_,trivial⟩,rfl,rfl⟩⟩
     ·intro x hx
      rcases List.mem_append.1 hx with hx|hx
      ·exact hgs x hx
      ·rw[List.mem_singleton.1 hx];exact hd8
     ·dsimp only
      rw[List.map_append]
      exact(hrow5.mono hle8).append (Rows.one hgr8 (Gl.d_n _))
     ·show some (SV.val (.int .i64 _)) = some (SV.val (.int .i64 _))
      congr 3;omega
     ·rw[List.length_append];rfl
    ·have hle26 : μ2.Le μ6 := hle3.trans hle6
     refine ifd (fun h1=>?_) (fun h1=>?_)
     ·refine cOw (dF hc6 2) fun v μ7 h7 hle7 hap7 hR => ?_
      obtain⟨e,hc7,w,rfl⟩:=hR
      obtain rfl:=e.symm
      have hrow6:=fI hrow6 hr5 hc7
      have hRO6:=hRO6.cur hne hc7
      have hBl6:=iC hBl6 hBr hc7
      have hcz:=hc7.at
      have hap6:=hap7
      refine iIn (fun hw=>?_) (fun hw=>?_)
      ·obtain ⟨g0, hg0⟩ : ∃ g0, gs[0]? = some g0 := ⟨_, List.getElem?_eq_getElem (List.length_pos_iff.2 hgne)⟩
       obtain⟨u0,hu0,hru0⟩:∃u0,us[0]? =some u0∧RepV μ6 g0.d u0:=by
        cases hrow5g:gs with
        |nil=>exact absurd hrow5g hgne
        |cons a rr=>
         rw[hrow5g]at hrow5 hg0
         cases hg0
         cases hrow5 with
         |cons ha hb' hc'=>exact⟨_,rfl,ha⟩
       have w_:=Gl.invV hru0
       obtain⟨p5,rfl⟩:=w_
       have hdg:=(hgs g0 (List.mem_of_getElem? hg0)).mono (m':=40) (b':=3) (by decide) (by decide)
       refine rX 0 rfl (by omega) ?_
       refine oIn _ rfl (hrow6.ownA hu0 rfl) ?_
       refine cB ⟨rb,0,none⟩ rfl (by omega) (by omega) ?_
       refine eO (k:=0) (j:=3) (x:=lD q) (.agg #[.string q.1,.int .i64 q.2.1,.int .i64 q.2.2,.int .i64 g0.kind,.string g0.name,.slice p5.1.1 g0.terms.length p5.1.2,.slice p5.2.1 g0.goals.length p5.2.2]) hRO6.row hxi (by simp[Addr.add_lit']) rfl (show 3+4≤7 by decide) (by simp[Value.oneCell']) fun o hrow2=>?_
       exact aB (by omega) (by omega) ⟨(0+1,ls++[⟨q.1,q.2.1,q.2.2,g0⟩],xs.set (0) (.agg #[.string q.1,.int .i64 q.2.1,.int .i64 q.2.2,.int .i64 g0.kind,.string g0.name,.slice p5.1.1 g0.terms.length p5.1.2,.slice p5.2.1 g0.goals.length p5.2.2]),_,_),hDI.next (by omega) hq hn hne hle26 hcz hRO6 hap6 ((Mem.Le.refl hB)) (hBl6) ((And.intro hBr hBrb)) hrows hrow2 ((hru0.mono (Mem.le_join μ6 hB))) (hdg),by dsimp only;omega,⟨⟨rfl,rfl,rfl,rfl,rfl,rfl,rfl,trivial⟩,⟨rfl,rfl,trivial⟩,rfl,rfl⟩⟩
      ·have w_ := RowO.alone (g := hB) hrow6
       obtain⟨o6,ho6,hrowB⟩:=w_
       have hB6:(hB.set r5 o6).Le h7:=fun b x hb=>by
        by_cases e:b=r5
        ·subst e;rw[Mem.set_at]at hb;cases hb;exact ho6
        ·rw[Mem.set_ne e]at hb;exact hBl6 b x hb
       have hBB:hB.Le (hB.set r5 o6):=eD (Mem.Le.refl _) hB5
       have hBn:(hB.set r5 o6) r=none∧(hB.set r5 o6) rb=none:=⟨by rw[Mem.set_ne (Ne.symm hr5)];exact hBr,by rw[Mem.set_ne (Ne.symm hr5b)];exact hBrb⟩
       have hgoal:RepV (μ6.join (hB.set r5 o6)) (Gl.mk 8 ⟨#[]⟩ [] gs).d (.agg #[.int .i64 8,.string ⟨#[]⟩,.slice none 0 0,.slice (some ⟨r5,0,none⟩) us.length c5]):=bY (ts:=[]) (Rep.nilSl 4) (hrowB.rep (Mem.le_join_right (kW hap6 hB6)) (hrow5.mono (Mem.le_join _ _)))
       have hdr:Dr (sgT qs) n mode 40 3 (.mk 8 ⟨#[]⟩ [] gs):=(Dr.disj hgs (by omega) hgne).mono (by omega) (by omega)
       refine cB ⟨rb,0,none⟩ rfl (by omega) (by omega) ?_
       refine eO (k:=0) (j:=3) (x:=lD q) (.agg #[.string q.1,.int .i64 q.2.1,.int .i64 q.2.2,.int .i64 8,.string ⟨#[]⟩,.slice none 0 0,.slice (some ⟨r5,0,none⟩) us.length c5]) hRO6.row hxi (by simp[Addr.add_lit']) rfl (show 3+4≤7 by decide) (by simp[Value.oneCell']) fun o hrow2=>?_
       exact aB (by omega) (by omega) ⟨(0+1,ls++[⟨q.1,q.2.1,q.2.2,(Gl.mk 8 ⟨#[]⟩ [] gs)⟩],xs.set (0) (.agg #[.string q.1,.int .i64 q.2.1,.int .i64 q.2.2,.int .i64 8,.string ⟨#[]⟩,.slice none 0 0,.slice (some ⟨r5,0,none⟩) us.length c5]),_,_),hDI.next (by omega) hq hn hne hle26 hcz hRO6 hap6 (hBB) (hB6) (hBn) hrows hrow2 (hgoal) (hdr),by dsimp only;omega,⟨⟨rfl,rfl,rfl,rfl,rfl,rfl,rfl,trivial⟩,⟨rfl,rfl,trivial⟩,rfl,rfl⟩⟩
     ·have hcz := hc6
      have w_:=RowO.alone (g:=hB) hrow6
      obtain⟨o6,ho6,hrowB⟩:=w_
      have hB6:(hB.set r5 o6).Le h6:=fun b x hb=>by
       by_cases e:b=r5
       ·subst e;rw[Mem.set_at]at hb;cases hb;exact ho6
       ·rw[Mem.set_ne e]at hb;exact hBl6 b x hb
      have hBB:hB.Le (hB.set r5 o6):=eD (Mem.Le.refl _) hB5
      have hBn:(hB.set r5 o6) r=none∧(hB.set r5 o6) rb=none:=⟨by rw[Mem.set_ne (Ne.symm hr5)];exact hBr,by rw[Mem.set_ne (Ne.symm hr5b)];exact hBrb⟩
      have hgoal:RepV (μ6.join (hB.set r5 o6)) (Gl.mk 8 ⟨#[]⟩ [] gs).d (.agg #[.int .i64 8,.string ⟨#[]⟩,.slice none 0 0,.slice (some ⟨r5,0,none⟩) us.length c5]):=bY (ts:=[]) (Rep.nilSl 4) (hrowB.rep (Mem.le_join_right (kW hap6 hB6)) (hrow5.mono (Mem.le_join _ _)))
      have hdr:Dr (sgT qs) n mode 40 3 (.mk 8 ⟨#[]⟩ [] gs):=(Dr.disj hgs (by omega) hgne).mono (by omega) (by omega)
      refine cB ⟨rb,0,none⟩ rfl (by omega) (by omega) ?_
      refine eO (k:=0) (j:=3) (x:=lD q) (.agg #[.string q.1,.int .i64 q.2.1,.int .i64 q.2.2,.int .i64 8,.string ⟨#[]⟩,.slice none 0 0,.slice (some ⟨r5,0,none⟩) us.length c5]) hRO6.row hxi (by simp[Addr.add_lit']) rfl (show 3+4≤7 by decide) (by simp[Value.oneCell']) fun o hrow2=>?_
      exact aB (by omega) (by omega) ⟨(0+1,ls++[⟨q.1,q.2.1,q.2.2,(Gl.mk 8 ⟨#[]⟩ [] gs)⟩],xs.set (0) (.agg #[.string q.1,.int .i64 q.2.1,.int .i64 q.2.2,.int .i64 8,.string ⟨#[]⟩,.slice none 0 0,.slice (some ⟨r5,0,none⟩) us.length c5]),_,_),hDI.next (by omega) hq hn hne hle26 hcz hRO6 hap6 (hBB) (hB6) (hBn) hrows hrow2 (hgoal) (hdr),by dsimp only;omega,⟨⟨rfl,rfl,rfl,rfl,rfl,rfl,rfl,trivial⟩,⟨rfl,rfl,trivial⟩,rfl,rfl⟩⟩
   |i+1=>
    have w_:=hpos (by omega)
    obtain⟨hne,hRO,hap2⟩:=w_
    refine rX (i+1) rfl (by omega) ?_
    refine oIn (aD (lD q)) rfl (hRO.row.ownA hxi rfl) ?_
    intro r9
    refine aB (by omega) (by omega) ?_
    rw[hn]
    have hcl:=dH hc2 hRO hne hsig n (by omega) 0 (by decide) mode
    rw[hsl]at hcl
    refine cOw hcl fun v μ3 h3 hle3 hap3 hR=>?_
    obtain⟨hc3,gs0,hgl,hgd,hgr⟩:=hR
    have w_:=Gl.invV hgr
    obtain⟨p0,rfl⟩:=w_
    have hRO3:=hRO.cur hne hc3
    have hBl3:hB.Le h3:=by
     have w_:=hc3.ex
     obtain⟨o3,_,e3⟩:=w_
     rw[e3]
     exact eD hBl hBr
    have hc3:=hc3.at
    have hd0:=(Dr.conj hgd (by omega)).mono (m':=9) (b':=1) (by omega) (Nat.le_refl _)
    intro rs hms hos
    have hos:h3 rs=none:=hos
    have hr5:rs≠r:=hc3.ne hos
    have hr5b:rs≠rb:=fun e=>by
     have w_:=hRO3.row.obj
     obtain⟨cs,hcs⟩:=w_
     rw[e,hcs]at hos
     cases hos
    have hrow0:RowO (h3.set rs (.cells [Value.int .i64 7,.string ⟨#[]⟩,.slice p0.1.1 0 p0.1.2,.slice p0.2.1 gs0.length p0.2.2].toArray 61 (0,0))) rs 1 61 4 [.agg #[.int .i64 7,.string ⟨#[]⟩,.slice p0.1.1 0 p0.1.2,.slice p0.2.1 gs0.length p0.2.2]]:=
     ⟨_,Mem.set_at _ _ _,Nat.le_refl _,by show 1≤_;decide,fun x hx=>by rw[List.mem_singleton.1 hx];exact⟨rfl,by simp[aD,Value.oneCell']⟩,rfl,by simp[aD]⟩
    intro r11
    refine cOw (aI (hc3.other hr5) 3) fun v μ4 h4 hle4 hap4 hR=>?_
    obtain⟨e,hc4,k3,rfl,-,hk33,-⟩:=hR
    obtain rfl:=e.symm
    have hk33:=hk33 (by decide)
    have hRO4:RelsO h4 rb c (sgT qs) xs:=RelsO.cur ⟨hRO3.row.set_ne hr5b.symm,hRO3.len,hRO3.at_⟩ hne hc4
    have hrow0:=fI hrow0 hr5 hc4
    have hBl4:hB.Le h4:=iC (eD hBl3 (jC hBl3 hos)) hBr hc4
    refine lIn (fun z:Nat×List Gl×List Value×(Nat×Nat)×Mem×Mem=>z.1≤2∧z.2.1.length+z.1≤3∧z.2.1≠[]∧(∀g∈z.2.1,Dr (sgT qs) n mode 9 1 g)∧RowO z.2.2.2.2.2 z.2.2.2.1.1 z.2.2.2.1.2 61 4 z.2.2.1∧Rows z.2.2.2.2.1 4 (z.2.1.map Gl.d) z.2.2.1∧μ3.Le z.2.2.2.2.1∧Cur z.2.2.2.2.1 z.2.2.2.2.2 r z.2.2.2.2.2∧Apart z.2.2.2.2.1 z.2.2.2.2.2∧z.2.2.2.1.1≠r∧z.2.2.2.1.1≠rb∧RelsO z.2.2.2.2.2 rb c (sgT qs) xs∧hB.Le z.2.2.2.2.2∧hB z.2.2.2.1.1=none)
     (fun (k, _, us, (r5, c5), μ', h') => ⟨[(0, .val (.pointer (some ⟨r, 0, none⟩))), (1, .val (.int .i64 mode)), (4, .loc 0 r4 0), (5, .loc 1 r5_ 0), (8, .val (.int .i64 (((i + 1) : Nat) : Int))), (10, .val (.int .i64 n)), (11, .loc 5 r11 0), (12, .val (.int .i64 k)), (38, .row 3 (some rb) ys.length c), (39, .val (.int .i64 ys.length)), (40, .val (.int .i64 (((i + 1) : Nat) : Int)))],
      [(0,some (.cells r4 [.val (.slice none 0 0)] 25)),(1,some (.cells r5_ [.row 3 (some rb) ys.length c] 25)),(5,some (.cells r11 [.val (.int .i64 8),.val (.string ⟨#[]⟩),.val (.slice none 0 0),.val (.slice (some ⟨r5,0,none⟩) us.length c5)] 61))],6,μ',h'⟩) (fun z=>z.1)
     (k3,[.mk 7 ⟨#[]⟩ [] gs0],[.agg #[.int .i64 7,.string ⟨#[]⟩,.slice p0.1.1 0 p0.1.2,.slice p0.2.1 gs0.length p0.2.2]],(rs,1),μ3,h4) ⟨by dsimp only;omega,by simp only[List.length_singleton];omega,(fun e=>nomatch e),(fun g hg=>by rw[List.mem_singleton.1 hg];exact hd0),hrow0,Rows.one hgr (Gl.d_n _),Mem.Le.refl _,hc4.at,hap4,hr5,hr5b,hRO4,hBl4,jC hBl3 hos⟩ (fun(_,_,_,(_,_),_,_)=>⟨rfl,rfl⟩)
     ⟨⟨rfl,rfl,rfl,rfl,rfl,rfl,rfl,rfl,rfl,rfl,rfl,trivial⟩,⟨rfl,rfl,rfl,trivial⟩,rfl,rfl⟩ ?_
    clear hc4 hap4 hRO4 hBl4 hrow0 hr5 hr5b
    rintro⟨k,gs,us,⟨r5,c5⟩,μ6,h6⟩ ⟨hk,hkl,hgne,hgs,hrow6,hrow5,hle6,hc6,hap6,hr5,hr5b,hRO6,hBl6,hB5⟩
    dsimp only at hk hkl hgne hgs hrow6 hrow5 hle6 hc6 hap6 hr5 hr5b hRO6 hBl6 hB5
    have hul:=hrow5.len
    rw[List.length_map]at hul
    refine ifd (fun hkp=>?_) (fun hkz=>?_)
    ·refine cOw (aI hc6 5) fun v μ7 h7 hle7 hap7 hR => ?_
     obtain⟨e,hc7,k5,rfl,-,hk55,-⟩:=hR
     obtain rfl:=e.symm
     have hk55:=hk55 (by decide)
     have hrow7:=fI hrow6 hr5 hc7
     have hRO7:=hRO6.cur hne hc7
     have hBl7:=iC hBl6 hBr hc7
     refine aC (by decide) ?_
     refine nEq (x:=((k5 / 2:Nat):Int)) (by show IntKind.i64.wrap (Int.tdiv (k5:Int) 2)=_;rw[Int.tdiv_eq_ediv_of_nonneg (by omega),aA (by omega) (by omega)];simp) ?_
     have hcl5:=dH hc7.at hRO7 hne hsig n (by omega) (k5 / 2) (by omega) mode
     rw[hsl]at hcl5
     refine cOw hcl5 fun v μ8 h8 hle8 hap8 hR=>?_
     obtain⟨hc8,gs8,hgl8,hgd8,hgr8⟩:=hR
     have w_:=Gl.invV hgr8
     obtain⟨p8,rfl⟩:=w_
     have hd8:=(Dr.conj hgd8 (by omega)).mono (m':=9) (b':=1) (by omega) (Nat.le_refl _)
     have hrow8:=fI hrow7 hr5 hc8
     have hRO8:=hRO7.cur hne hc8
     have hBl8:=iC hBl7 hBr hc8
     have hc8:=hc8.at
     intro rg
     refine fM us rfl hrow8 ?_ ?_ fun r9' c9 o9 hrow9 hor=>?_
     ·show(us.length+1)*72≤_;omega
     ·exact Nat.le_trans (m:=100000000) (show us.length+1≤_ by omega) (by decide)
     have hn1:r9'≠r:=hor.elim (fun e=>by rw[e];exact hr5) fun e=>hc8.ne e.1
     have hn2:r9'≠rb:=hor.elim (fun e=>by rw[e];exact hr5b) fun e e2=>by
      have w_:=hRO8.row.obj
      obtain⟨cs,hcs⟩:=w_
      have e1:h8 r9'=none:=e.1
      rw[e2,hcs]at e1
      cases e1
     have hn3:hB r9'=none:=hor.elim (fun e=>by rw[e];exact hB5) fun e=>jC hBl8 e.1
     refine aB (by omega) (by omega) ⟨(k-1,gs++[.mk 7 ⟨#[]⟩ [] gs8],_,(r9',c9),μ8,_),⟨by dsimp only;omega,by simp only[List.length_append,List.length_singleton];omega,by simp,?_,hrow9,?_,hle6.trans hle8,hc8.other hn1,hap8.set (kA hrow8 hap8 hor),hn1,hn2,⟨hRO8.row.set_ne hn2.symm,hRO8.len,hRO8.at_⟩,eD hBl8 hn3,hn3⟩,by dsimp only;omega,⟨⟨rfl,rfl,rfl,rfl,rfl,rfl,rfl,?_,rfl,rfl,rfl,trivial⟩,⟨rfl,rfl,?_,trivial⟩,rfl,rfl⟩⟩
     ·intro x hx
      rcases List.mem_append.1 hx with hx|hx
      ·exact hgs x hx
      ·rw[List.mem_singleton.1 hx];exact hd8
     ·dsimp only
      rw[List.map_append]
      exact(hrow5.mono hle8).append (Rows.one hgr8 (Gl.d_n _))
     ·show some (SV.val (.int .i64 _)) = some (SV.val (.int .i64 _))
      congr 3;omega
     ·rw[List.length_append];rfl
    ·have hle26 : μ2.Le μ6 := hle3.trans hle6
     refine ifd (fun h1=>?_) (fun h1=>?_)
     ·refine cOw (dF hc6 2) fun v μ7 h7 hle7 hap7 hR => ?_
      obtain⟨e,hc7,w,rfl⟩:=hR
      obtain rfl:=e.symm
      have hrow6:=fI hrow6 hr5 hc7
      have hRO6:=hRO6.cur hne hc7
      have hBl6:=iC hBl6 hBr hc7
      have hcz:=hc7.at
      have hap6:=hap7
      refine iIn (fun hw=>?_) (fun hw=>?_)
      ·obtain ⟨g0, hg0⟩ : ∃ g0, gs[0]? = some g0 := ⟨_, List.getElem?_eq_getElem (List.length_pos_iff.2 hgne)⟩
       obtain⟨u0,hu0,hru0⟩:∃u0,us[0]? =some u0∧RepV μ6 g0.d u0:=by
        cases hrow5g:gs with
        |nil=>exact absurd hrow5g hgne
        |cons a rr=>
         rw[hrow5g]at hrow5 hg0
         cases hg0
         cases hrow5 with
         |cons ha hb' hc'=>exact⟨_,rfl,ha⟩
       have w_:=Gl.invV hru0
       obtain⟨p5,rfl⟩:=w_
       have hdg:=(hgs g0 (List.mem_of_getElem? hg0)).mono (m':=40) (b':=3) (by decide) (by decide)
       refine rX 0 rfl (by omega) ?_
       refine oIn _ rfl (hrow6.ownA hu0 rfl) ?_
       refine cB ⟨rb,0,none⟩ rfl (by omega) (by omega) ?_
       refine eO (k:=(i+1)) (j:=3) (x:=lD q) (.agg #[.string q.1,.int .i64 q.2.1,.int .i64 q.2.2,.int .i64 g0.kind,.string g0.name,.slice p5.1.1 g0.terms.length p5.1.2,.slice p5.2.1 g0.goals.length p5.2.2]) hRO6.row hxi (by simp[Addr.add_lit']) rfl (show 3+4≤7 by decide) (by simp[Value.oneCell']) fun o hrow2=>?_
       exact aB (by omega) (by omega) ⟨((i+1)+1,ls++[⟨q.1,q.2.1,q.2.2,g0⟩],xs.set ((i+1)) (.agg #[.string q.1,.int .i64 q.2.1,.int .i64 q.2.2,.int .i64 g0.kind,.string g0.name,.slice p5.1.1 g0.terms.length p5.1.2,.slice p5.2.1 g0.goals.length p5.2.2]),_,_),hDI.next (by omega) hq hn hne hle26 hcz hRO6 hap6 ((Mem.Le.refl hB)) (hBl6) ((And.intro hBr hBrb)) hrows hrow2 ((hru0.mono (Mem.le_join μ6 hB))) (hdg),by dsimp only;omega,⟨⟨rfl,rfl,rfl,rfl,rfl,rfl,rfl,trivial⟩,⟨rfl,rfl,trivial⟩,rfl,rfl⟩⟩
      ·have w_ := RowO.alone (g := hB) hrow6
       obtain⟨o6,ho6,hrowB⟩:=w_
       have hB6:(hB.set r5 o6).Le h7:=fun b x hb=>by
        by_cases e:b=r5
        ·subst e;rw[Mem.set_at]at hb;cases hb;exact ho6
        ·rw[Mem.set_ne e]at hb;exact hBl6 b x hb
       have hBB:hB.Le (hB.set r5 o6):=eD (Mem.Le.refl _) hB5
       have hBn:(hB.set r5 o6) r=none∧(hB.set r5 o6) rb=none:=⟨by rw[Mem.set_ne (Ne.symm hr5)];exact hBr,by rw[Mem.set_ne (Ne.symm hr5b)];exact hBrb⟩
       have hgoal:RepV (μ6.join (hB.set r5 o6)) (Gl.mk 8 ⟨#[]⟩ [] gs).d (.agg #[.int .i64 8,.string ⟨#[]⟩,.slice none 0 0,.slice (some ⟨r5,0,none⟩) us.length c5]):=bY (ts:=[]) (Rep.nilSl 4) (hrowB.rep (Mem.le_join_right (kW hap6 hB6)) (hrow5.mono (Mem.le_join _ _)))
       have hdr:Dr (sgT qs) n mode 40 3 (.mk 8 ⟨#[]⟩ [] gs):=(Dr.disj hgs (by omega) hgne).mono (by omega) (by omega)
       refine cB ⟨rb,0,none⟩ rfl (by omega) (by omega) ?_
       refine eO (k:=(i+1)) (j:=3) (x:=lD q) (.agg #[.string q.1,.int .i64 q.2.1,.int .i64 q.2.2,.int .i64 8,.string ⟨#[]⟩,.slice none 0 0,.slice (some ⟨r5,0,none⟩) us.length c5]) hRO6.row hxi (by simp[Addr.add_lit']) rfl (show 3+4≤7 by decide) (by simp[Value.oneCell']) fun o hrow2=>?_
       exact aB (by omega) (by omega) ⟨((i+1)+1,ls++[⟨q.1,q.2.1,q.2.2,(Gl.mk 8 ⟨#[]⟩ [] gs)⟩],xs.set ((i+1)) (.agg #[.string q.1,.int .i64 q.2.1,.int .i64 q.2.2,.int .i64 8,.string ⟨#[]⟩,.slice none 0 0,.slice (some ⟨r5,0,none⟩) us.length c5]),_,_),hDI.next (by omega) hq hn hne hle26 hcz hRO6 hap6 (hBB) (hB6) (hBn) hrows hrow2 (hgoal) (hdr),by dsimp only;omega,⟨⟨rfl,rfl,rfl,rfl,rfl,rfl,rfl,trivial⟩,⟨rfl,rfl,trivial⟩,rfl,rfl⟩⟩
     ·have hcz := hc6
      have w_:=RowO.alone (g:=hB) hrow6
      obtain⟨o6,ho6,hrowB⟩:=w_
      have hB6:(hB.set r5 o6).Le h6:=fun b x hb=>by
       by_cases e:b=r5
       ·subst e;rw[Mem.set_at]at hb;cases hb;exact ho6
       ·rw[Mem.set_ne e]at hb;exact hBl6 b x hb
      have hBB:hB.Le (hB.set r5 o6):=eD (Mem.Le.refl _) hB5
      have hBn:(hB.set r5 o6) r=none∧(hB.set r5 o6) rb=none:=⟨by rw[Mem.set_ne (Ne.symm hr5)];exact hBr,by rw[Mem.set_ne (Ne.symm hr5b)];exact hBrb⟩
      have hgoal:RepV (μ6.join (hB.set r5 o6)) (Gl.mk 8 ⟨#[]⟩ [] gs).d (.agg #[.int .i64 8,.string ⟨#[]⟩,.slice none 0 0,.slice (some ⟨r5,0,none⟩) us.length c5]):=bY (ts:=[]) (Rep.nilSl 4) (hrowB.rep (Mem.le_join_right (kW hap6 hB6)) (hrow5.mono (Mem.le_join _ _)))
      have hdr:Dr (sgT qs) n mode 40 3 (.mk 8 ⟨#[]⟩ [] gs):=(Dr.disj hgs (by omega) hgne).mono (by omega) (by omega)
      refine cB ⟨rb,0,none⟩ rfl (by omega) (by omega) ?_
      refine eO (k:=(i+1)) (j:=3) (x:=lD q) (.agg #[.string q.1,.int .i64 q.2.1,.int .i64 q.2.2,.int .i64 8,.string ⟨#[]⟩,.slice none 0 0,.slice (some ⟨r5,0,none⟩) us.length c5]) hRO6.row hxi (by simp[Addr.add_lit']) rfl (show 3+4≤7 by decide) (by simp[Value.oneCell']) fun o hrow2=>?_
      exact aB (by omega) (by omega) ⟨((i+1)+1,ls++[⟨q.1,q.2.1,q.2.2,(Gl.mk 8 ⟨#[]⟩ [] gs)⟩],xs.set ((i+1)) (.agg #[.string q.1,.int .i64 q.2.1,.int .i64 q.2.2,.int .i64 8,.string ⟨#[]⟩,.slice none 0 0,.slice (some ⟨r5,0,none⟩) us.length c5]),_,_),hDI.next (by omega) hq hn hne hle26 hcz hRO6 hap6 (hBB) (hB6) (hBn) hrows hrow2 (hgoal) (hdr),by dsimp only;omega,⟨⟨rfl,rfl,rfl,rfl,rfl,rfl,rfl,trivial⟩,⟨rfl,rfl,trivial⟩,rfl,rfl⟩⟩
  ·have hie : i = ys.length := by omega
   obtain⟨i',rfl⟩:∃i',i=i'+1:=⟨i-1,by omega⟩
   have w_:=hpos (by omega)
   obtain⟨hne,hRO,hap2⟩:=w_
   have hql2:qs.length=ls.length:=by omega
   have at_:∀(j:Nat) l,ls[j]? =some l→∃q,qs[j]? =some q:=fun j l hl=>⟨_,List.getElem?_eq_getElem (by have:=(List.getElem?_eq_some_iff.1 hl).1;omega)⟩
   have hsg:qKu ls=sgT qs:=by
    apply List.ext_getElem?
    intro j
    rw[qKu,sgT,List.getElem?_map,List.getElem?_map]
    cases hl:ls[j]? with
    |none=>
     have:qs[j]? =none:=List.getElem?_eq_none (by have:=List.getElem?_eq_none_iff.1 hl;omega)
     rw[this];rfl
    |some l=>
     have w_:=at_ j l hl
     obtain⟨q,hq⟩:=w_
     have w_:=hgood j l q hl hq
     obtain⟨a,b,_,_⟩:=w_
     rw[hq]
     simp[a,b]
   refine cG h2 Mem.nil (Parts.nil_right h2) ⟨ls,⟨by omega,by omega,fun j l hl=>?_,fun l hl=>?_,fun l hl=>?_,fun l hl=>?_⟩,?_⟩
   ·have w_ := at_ j l hl
    obtain⟨q,hq⟩:=w_
    rw[(hgood j l q hl hq).1,hT.nm j q hq]
   ·have w_ := List.getElem?_of_mem hl
    obtain⟨j,hj⟩:=w_
    have w_:=at_ j l hj
    obtain⟨q,hq⟩:=w_
    rw[(hgood j l q hj hq).2.1]
    exact hT.ar q (List.mem_of_getElem? hq)
   ·have w_ := List.getElem?_of_mem hl
    obtain⟨j,hj⟩:=w_
    have w_:=at_ j l hj
    obtain⟨q,hq⟩:=w_
    rw[(hgood j l q hj hq).2.2.1]
    exact hT.lo q (List.mem_of_getElem? hq)
   ·have w_ := List.getElem?_of_mem hl
    obtain⟨j,hj⟩:=w_
    have w_:=at_ j l hj
    obtain⟨q,hq⟩:=w_
    have w_:=hgood j l q hj hq
    obtain⟨_,e2,e3,e4⟩:=w_
    rw[hsg,e2,e3]
    exact e4
   ·rw [hie, ← hxl, List.take_length] at hrows
    have k:=hRO.row.rep (Mem.le_join_right hap2) (hrows.mono (qFo (Mem.Le.refl _) hBl hap2))
    rw[hxl]at k
    exact⟨_,rfl,RepS.last k⟩
end
end Go.Vx
namespace Go.Vx
open Go.Proofs Classical
theorem LibOk.prom{s:Bs}{p:Pg}(h:LibOk s p)(hok:p.Ok){mode:Int}(hpos:mode≤1→p.Pos):MkP mode p:=⟨hok,h.small3,h.small2,hpos,h.ne,h.ar⟩
section
variable {μ:Mem}
set_option maxHeartbeats 1000000 in
theorem kV{base:Option Addr}{n cap:Nat}(hb:Bytes μ base n)(m:Int)(hm:m≤1000000)(mode:Int)(hmode:mode=1∨mode=2):
  Spec Tryz.prog 11 [.slice base n cap,.int .i64 m,.int .i64 mode] μ fun v μ'=>∃p,MkP mode p∧RepV μ' p.d v:=by
 refine Spec.mk Tryz.func11 (by kernel_rfl) ?_
 intro r6
 refine cOw (gU hb m hm) fun v μ1 h1 hle1 hap1 hR=>?_
 obtain⟨e,r,rfl,ho,hc1⟩:=hR
 obtain rfl:=e.symm
 refine cOw (rF hc1.at) fun v μ2 h2 hle2 hap2 hR=>?_
 obtain⟨hc2,s,hs,rfl⟩:=hR
 have w_:=qP (μ:=μ2) hs
 obtain⟨t,p,hp,hG⟩:=w_
 refine cGv hG ?_
 refine cPl (kE hp.parse hp.len hp.bytes hp.wd) fun v μ3 hle3 hR=>?_
 obtain⟨q,tv,b,rfl,hrq,hqp⟩:=hR
 have w_:=Pg.invV hrq
 obtain⟨pq,rfl⟩:=w_
 intro r8
 have hc3:=hc2.mono hle3
 refine iIn (fun hb1=>?_) (fun hb1=>?_)
 ·have w_ := hqp hb1
  obtain⟨rfl,hok⟩:=w_
  refine cOw (dF hc3.at 8) fun v μ4 h4 hle4 hap4 hR=>?_
  obtain⟨e,hc4,w,rfl⟩:=hR
  obtain rfl:=e.symm
  refine iIn (fun hw=>?_) (fun hw=>?_)
  ·refine ifd (fun hm2 => ?_) (fun hm2 => ?_)
   ·exact rPl ⟨_,hp.prom hok (fun h=>absurd h (by omega)),hrq⟩
   ·refine ifd (fun hm1 => ?_) (fun hm1 => absurd hm1 (by omega))
    refine cPl (eS hrq hp.wd) fun v μ5 hle5 hR=>?_
    have hR:v= .bool (decide q.Pos):=hR
    subst hR
    refine iIn (fun hpos=>?_) (fun hpos=>?_)
    ·exact rPl ⟨_,hp.prom hok (fun _=>of_decide_eq_true hpos),hrq.mono hle5⟩
    ·refine cPl (lF (hrq.mono hle5) hp.wd) fun v μ6 hle6 hR => ?_
     have hR:v= .bool (decide q.Pure):=hR
     subst hR
     refine iIn (fun hpu=>?_) (fun hpu=>?_)
     ·exact rPl ⟨_,hp.prom hok (fun _=>Pg.Pure.pos (of_decide_eq_true hpu)),(hrq.mono hle5).mono hle6⟩
     ·refine cOw (gK ((((hc3.trans hc4).mono hle5).mono hle6)).at mode) fun v μd hd hled hapd hR => ?_
      obtain⟨l,hl,hrl⟩:=hR
      have w_:=Pg.invV hrl
      obtain⟨pd,rfl⟩:=w_
      exact rPl ⟨_,hl.prom,hrl⟩
  ·refine cOw (gK ((hc3.trans hc4)).at mode) fun v μd hd hled hapd hR => ?_
   obtain⟨l,hl,hrl⟩:=hR
   have w_:=Pg.invV hrl
   obtain⟨pd,rfl⟩:=w_
   exact rPl ⟨_,hl.prom,hrl⟩
 ·refine cOw (gK (hc3).at mode) fun v μd hd hled hapd hR => ?_
  obtain⟨l,hl,hrl⟩:=hR
  have w_:=Pg.invV hrl
  obtain⟨pd,rfl⟩:=w_
  exact rPl ⟨_,hl.prom,hrl⟩
end
end Go.Vx
namespace Go.Vx
open Go.Proofs Classical
section
variable {μ:Mem}
set_option maxHeartbeats 1000000 in
theorem iG{xs:List T}{t:T}{v vt:Value}(h:RepV μ (.sl 4 ((xs.map T.tm).map Tm.d)) v)(ht:RepV μ t.tm.d vt)(hasc:AscT xs)(hn:xs.length≤1000):
  Spec Tryz.prog 127 [v,vt] μ fun v' μ'=>∃ys,RepV μ' (.sl 4 ((ys.map T.tm).map Tm.d)) v'∧AscT ys∧(∀y∈ys,y=t∨y∈xs)∧1≤ys.length∧ys.length≤xs.length+1:=by
 have w_:=Rep.sl h
 obtain⟨b,c,rfl,hs⟩:=w_
 rw[List.length_map,List.length_map]at hs h ⊢
 have w_:=Rep.src h
 obtain⟨vs,hrows,hvs,hcap,hsrc⟩:=w_
 have w_:=Tm.invV ht
 obtain⟨q,rfl⟩:=w_
 refine Spec.mk Tryz.func127 (by kernel_rfl) ?_
 intro r3
 refine lIn (fun k:Nat=>k≤xs.length∧∀x,xs[k]? =some x→0≤x.cmp t) (fun k=>⟨[(0,.val (.slice b xs.length c)),(3,.loc 0 r3 0),(5,.val (.int .i64 k))],[(0,some (.cells r3 [.val (.int .i64 t.tm.kind),.val (.int .i64 t.tm.num),.val (.string t.tm.name),.val (.slice q.1 t.tm.args.length q.2)] 75))],1,μ,Mem.nil⟩) (fun k=>k)
  xs.length ⟨Nat.le_refl _,fun x hx=>by rw[List.getElem?_eq_none (Nat.le_refl _)]at hx;cases hx⟩ (fun _=>⟨rfl,rfl⟩) ⟨⟨rfl,rfl,rfl,trivial⟩,⟨rfl,trivial⟩,rfl,rfl⟩ ?_
 rintro k ⟨hk,hge⟩
 refine ifd (fun hk0=>?_) (fun hk0=>?_)
 ·obtain ⟨j, hj⟩ : ∃ j, k = j + 1 := ⟨k - 1, by omega⟩
  obtain⟨x,hx⟩:∃x,xs[j]? =some x:=⟨_,List.getElem?_eq_getElem (by omega)⟩
  have w_:=T.elemL hs hx
  obtain⟨ad,p,hel,hrx⟩:=w_
  refine aB (by omega) (by omega) ?_
  rw[show(k:Int)-1=(j:Int)from by omega]
  refine eIn hel ?_
  refine cGv (gR x t hrx ht) ?_
  refine iIn (fun hc=>?_) (fun hc=>?_)
  ·have hc := of_decide_eq_true hc
   refine aB (by omega) (by omega) ⟨j,⟨by omega,fun y hy=>by rw[hx]at hy;cases hy;exact hc⟩,by omega,⟨⟨rfl,rfl,?_,trivial⟩,⟨rfl,trivial⟩,rfl,rfl⟩⟩
   show some (SV.val (.int .i64 _))=some (SV.val (.int .i64 _))
   congr 3;omega
  ·have hc := of_decide_eq_false hc
   have hlow:∀j x,j+1=k→xs[j]? =some x→x.cmp t<0:=fun j' x' e hx'=>by
    obtain rfl:j'=j:=by omega
    rw[hx]at hx';cases hx'
    omega
   refine ifd (fun hlt=>?_) (fun hlt=>?_)
   ·obtain ⟨y, hy⟩ : ∃ y, xs[k]? = some y := ⟨_, List.getElem?_eq_getElem (by omega)⟩
    have w_:=T.elemL hs hy
    obtain⟨ady,py,hely,hry⟩:=w_
    refine eIn hely ?_
    refine cGv (eK y t hry ht) ?_
    refine iIn (fun hsm=>?_) (fun hsm=>?_)
    ·exact rPl ⟨xs,h,hasc,fun y hy=> .inr hy,by omega,by omega⟩
    ·have hsm := of_decide_eq_false hsm
     have hhi:∀x,xs[k]? =some x→t.cmp x<0:=fun x hx=>by
      rw[hy]at hx;cases hx
      have h1:=hge y hy
      have h2:y.cmp t≠0:=fun e=>hsm ((T.cmp_zero y t).1 e)
      exact(T.cmp_anti t y).2 (by omega)
     intro r5
     refine aG 0 k rfl rfl (by omega) (by omega) ?_
     refine aJ _ (hsrc 0 k (by omega) (by omega)) ?_
     refine gIn ?_ ?_ fun b1 c1 _=>?_
     ·show(0+_)*56≤_;simp;omega
     ·exact Nat.le_trans (m:=2000000000) (by simp;omega) (by decide)
     intro r6
     refine gIn ?_ ?_ fun b2 c2 _=>?_
     ·show(_+1)*56≤_;simp;omega
     ·exact Nat.le_trans (m:=2000000000) (by simp;omega) (by decide)
     refine aG k xs.length rfl rfl (by omega) (by omega) ?_
     refine aJ _ (hsrc k xs.length (by omega) (Nat.le_refl _)) ?_
     refine gIn ?_ ?_ fun b3 c3 _=>?_
     ·show(_+_)*56≤_;simp;omega
     ·exact Nat.le_trans (m:=3000000000) (by simp;omega) (by decide)
     have hr2:=((hrows.take k).append (Rows.one ht (Tm.d_n _))).append (hrows.drop k)
     refine rFz [1] fun μ2 hle2 hno2 hrow2=> .inl ⟨xs.take k++t::xs.drop k,?_,AscT.ins hasc (by omega) hhi hlow,fun y hy=>?_,by simp;omega,by simp;omega⟩
     ·have ev:(([]:List Value)++(vs.drop 0).take (k-0)++[Value.agg #[.int .i64 t.tm.kind,.int .i64 t.tm.num,.string t.tm.name,.slice q.1 t.tm.args.length q.2]]++(vs.drop k).take (xs.length-k))=vs.take k++[.agg #[.int .i64 t.tm.kind,.int .i64 t.tm.num,.string t.tm.name,.slice q.1 t.tm.args.length q.2]]++vs.drop k:=by
       simp
       rw[List.take_of_length_le (by simp;omega)]
      have e2:(((xs.take k++t::xs.drop k).map T.tm).map Tm.d)=((xs.map T.tm).map Tm.d).take k++[t.tm.d]++((xs.map T.tm).map Tm.d).drop k:=by simp
      have hrow2:=ev ▸ hrow2
      have:=Rows.sl hrow2 (hr2.mono hle2) (Nat.le_trans (m:=3000000000) (by simp;omega) (by decide))
      rw[←e2]at this
      rw[←ev]at this
      exact this
     ·rcases List.mem_append.1 hy with hy | hy
      ·exact .inr (List.mem_of_mem_take hy)
      ·rcases List.mem_cons.1 hy with rfl | hy
       ·exact .inl rfl
       ·exact .inr (List.mem_of_mem_drop hy)
   ·have hhi : ∀ x, xs[k]? = some x → t.cmp x < 0 := fun x hx => by have := (List.getElem?_eq_some_iff.1 hx).1; omega
    intro r5
    refine aG 0 k rfl rfl (by omega) (by omega) ?_
    refine aJ _ (hsrc 0 k (by omega) (by omega)) ?_
    refine gIn ?_ ?_ fun b1 c1 _=>?_
    ·show(0+_)*56≤_;simp;omega
    ·exact Nat.le_trans (m:=2000000000) (by simp;omega) (by decide)
    intro r6
    refine gIn ?_ ?_ fun b2 c2 _=>?_
    ·show(_+1)*56≤_;simp;omega
    ·exact Nat.le_trans (m:=2000000000) (by simp;omega) (by decide)
    refine aG k xs.length rfl rfl (by omega) (by omega) ?_
    refine aJ _ (hsrc k xs.length (by omega) (Nat.le_refl _)) ?_
    refine gIn ?_ ?_ fun b3 c3 _=>?_
    ·show(_+_)*56≤_;simp;omega
    ·exact Nat.le_trans (m:=3000000000) (by simp;omega) (by decide)
    have hr2:=((hrows.take k).append (Rows.one ht (Tm.d_n _))).append (hrows.drop k)
    refine rFz [1] fun μ2 hle2 hno2 hrow2=> .inl ⟨xs.take k++t::xs.drop k,?_,AscT.ins hasc (by omega) hhi hlow,fun y hy=>?_,by simp;omega,by simp;omega⟩
    ·have ev:(([]:List Value)++(vs.drop 0).take (k-0)++[Value.agg #[.int .i64 t.tm.kind,.int .i64 t.tm.num,.string t.tm.name,.slice q.1 t.tm.args.length q.2]]++(vs.drop k).take (xs.length-k))=vs.take k++[.agg #[.int .i64 t.tm.kind,.int .i64 t.tm.num,.string t.tm.name,.slice q.1 t.tm.args.length q.2]]++vs.drop k:=by
      simp
      rw[List.take_of_length_le (by simp;omega)]
     have e2:(((xs.take k++t::xs.drop k).map T.tm).map Tm.d)=((xs.map T.tm).map Tm.d).take k++[t.tm.d]++((xs.map T.tm).map Tm.d).drop k:=by simp
     have hrow2:=ev ▸ hrow2
     have:=Rows.sl hrow2 (hr2.mono hle2) (Nat.le_trans (m:=3000000000) (by simp;omega) (by decide))
     rw[←e2]at this
     rw[←ev]at this
     exact this
    ·rcases List.mem_append.1 hy with hy | hy
     ·exact .inr (List.mem_of_mem_take hy)
     ·rcases List.mem_cons.1 hy with rfl | hy
      ·exact .inl rfl
      ·exact .inr (List.mem_of_mem_drop hy)
 ·have hlow : ∀ j x, j + 1 = k → xs[j]? = some x → x.cmp t < 0 := fun j' x' e => by omega
  refine ifd (fun hlt=>?_) (fun hlt=>?_)
  ·obtain ⟨y, hy⟩ : ∃ y, xs[k]? = some y := ⟨_, List.getElem?_eq_getElem (by omega)⟩
   have w_:=T.elemL hs hy
   obtain⟨ady,py,hely,hry⟩:=w_
   refine eIn hely ?_
   refine cGv (eK y t hry ht) ?_
   refine iIn (fun hsm=>?_) (fun hsm=>?_)
   ·exact rPl ⟨xs,h,hasc,fun y hy=> .inr hy,by omega,by omega⟩
   ·have hsm := of_decide_eq_false hsm
    have hhi:∀x,xs[k]? =some x→t.cmp x<0:=fun x hx=>by
     rw[hy]at hx;cases hx
     have h1:=hge y hy
     have h2:y.cmp t≠0:=fun e=>hsm ((T.cmp_zero y t).1 e)
     exact(T.cmp_anti t y).2 (by omega)
    intro r5
    refine aG 0 k rfl rfl (by omega) (by omega) ?_
    refine aJ _ (hsrc 0 k (by omega) (by omega)) ?_
    refine gIn ?_ ?_ fun b1 c1 _=>?_
    ·show(0+_)*56≤_;simp;omega
    ·exact Nat.le_trans (m:=2000000000) (by simp;omega) (by decide)
    intro r6
    refine gIn ?_ ?_ fun b2 c2 _=>?_
    ·show(_+1)*56≤_;simp;omega
    ·exact Nat.le_trans (m:=2000000000) (by simp;omega) (by decide)
    refine aG k xs.length rfl rfl (by omega) (by omega) ?_
    refine aJ _ (hsrc k xs.length (by omega) (Nat.le_refl _)) ?_
    refine gIn ?_ ?_ fun b3 c3 _=>?_
    ·show(_+_)*56≤_;simp;omega
    ·exact Nat.le_trans (m:=3000000000) (by simp;omega) (by decide)
    have hr2:=((hrows.take k).append (Rows.one ht (Tm.d_n _))).append (hrows.drop k)
    refine rFz [1] fun μ2 hle2 hno2 hrow2=> .inl ⟨xs.take k++t::xs.drop k,?_,AscT.ins hasc (by omega) hhi hlow,fun y hy=>?_,by simp;omega,by simp;omega⟩
    ·have ev:(([]:List Value)++(vs.drop 0).take (k-0)++[Value.agg #[.int .i64 t.tm.kind,.int .i64 t.tm.num,.string t.tm.name,.slice q.1 t.tm.args.length q.2]]++(vs.drop k).take (xs.length-k))=vs.take k++[.agg #[.int .i64 t.tm.kind,.int .i64 t.tm.num,.string t.tm.name,.slice q.1 t.tm.args.length q.2]]++vs.drop k:=by
      simp
      rw[List.take_of_length_le (by simp;omega)]
     have e2:(((xs.take k++t::xs.drop k).map T.tm).map Tm.d)=((xs.map T.tm).map Tm.d).take k++[t.tm.d]++((xs.map T.tm).map Tm.d).drop k:=by simp
     have hrow2:=ev ▸ hrow2
     have:=Rows.sl hrow2 (hr2.mono hle2) (Nat.le_trans (m:=3000000000) (by simp;omega) (by decide))
     rw[←e2]at this
     rw[←ev]at this
     exact this
    ·rcases List.mem_append.1 hy with hy | hy
     ·exact .inr (List.mem_of_mem_take hy)
     ·rcases List.mem_cons.1 hy with rfl | hy
      ·exact .inl rfl
      ·exact .inr (List.mem_of_mem_drop hy)
  ·have hhi : ∀ x, xs[k]? = some x → t.cmp x < 0 := fun x hx => by have := (List.getElem?_eq_some_iff.1 hx).1; omega
   intro r5
   refine aG 0 k rfl rfl (by omega) (by omega) ?_
   refine aJ _ (hsrc 0 k (by omega) (by omega)) ?_
   refine gIn ?_ ?_ fun b1 c1 _=>?_
   ·show(0+_)*56≤_;simp;omega
   ·exact Nat.le_trans (m:=2000000000) (by simp;omega) (by decide)
   intro r6
   refine gIn ?_ ?_ fun b2 c2 _=>?_
   ·show(_+1)*56≤_;simp;omega
   ·exact Nat.le_trans (m:=2000000000) (by simp;omega) (by decide)
   refine aG k xs.length rfl rfl (by omega) (by omega) ?_
   refine aJ _ (hsrc k xs.length (by omega) (Nat.le_refl _)) ?_
   refine gIn ?_ ?_ fun b3 c3 _=>?_
   ·show(_+_)*56≤_;simp;omega
   ·exact Nat.le_trans (m:=3000000000) (by simp;omega) (by decide)
   have hr2:=((hrows.take k).append (Rows.one ht (Tm.d_n _))).append (hrows.drop k)
   refine rFz [1] fun μ2 hle2 hno2 hrow2=> .inl ⟨xs.take k++t::xs.drop k,?_,AscT.ins hasc (by omega) hhi hlow,fun y hy=>?_,by simp;omega,by simp;omega⟩
   ·have ev:(([]:List Value)++(vs.drop 0).take (k-0)++[Value.agg #[.int .i64 t.tm.kind,.int .i64 t.tm.num,.string t.tm.name,.slice q.1 t.tm.args.length q.2]]++(vs.drop k).take (xs.length-k))=vs.take k++[.agg #[.int .i64 t.tm.kind,.int .i64 t.tm.num,.string t.tm.name,.slice q.1 t.tm.args.length q.2]]++vs.drop k:=by
     simp
     rw[List.take_of_length_le (by simp;omega)]
    have e2:(((xs.take k++t::xs.drop k).map T.tm).map Tm.d)=((xs.map T.tm).map Tm.d).take k++[t.tm.d]++((xs.map T.tm).map Tm.d).drop k:=by simp
    have hrow2:=ev ▸ hrow2
    have:=Rows.sl hrow2 (hr2.mono hle2) (Nat.le_trans (m:=3000000000) (by simp;omega) (by decide))
    rw[←e2]at this
    rw[←ev]at this
    exact this
   ·rcases List.mem_append.1 hy with hy | hy
    ·exact .inr (List.mem_of_mem_take hy)
    ·rcases List.mem_cons.1 hy with rfl | hy
     ·exact .inl rfl
     ·exact .inr (List.mem_of_mem_drop hy)
end
end Go.Vx
namespace Go.Vx
open Go.Proofs Classical
section
variable {μ:Mem}
set_option maxHeartbeats 1000000 in
theorem lA{h:Mem}{r:Nat}(hc:Cur μ h r h)(most:Nat)(hm:1≤most)(hm8:most≤8):
  SpecH Tryz.prog 56 [.pointer (some ⟨r,0,none⟩),.int .i64 most] μ h fun v μ' _=>∃xs,Uni most xs∧RepV μ' (.sl 4 ((xs.map T.tm).map Tm.d)) v:=by
 refine SpecH.mk [] Tryz.func56 (by kernel_rfl) ?_
 intro r7
 refine aS [0] fun μ0 hle0 hno0 hat0=>lC (aI (hc.mono hle0) most) fun v μ1 h1 hle1 hap1 hR=>?_
 obtain⟨e,hc1,k0,rfl,-,hk0,-⟩:=hR
 obtain rfl:=e.symm
 have hk0:=hk0 (by omega)
 have hr0:RepV μ0 (.sl 4 ((([]:List T).map T.tm).map Tm.d)) (.slice (some ⟨r7,0,none⟩) 0 0):=Rows.sl hat0 Rows.nil (Nat.zero_le _)
 refine aB (by omega) (by omega) ?_
 refine lIn (fun z:Nat×Nat×List T×(Option Addr×Nat)×Mem×Mem=>z.1+z.2.1=1+k0∧(z.1=0→z.2.2.1=[]∧z.2.2.2.1=(some ⟨r7,0,none⟩,0))∧(0<z.1→1≤z.2.2.1.length)∧z.2.2.1.length≤z.1∧RepV z.2.2.2.2.1 (.sl 4 ((z.2.2.1.map T.tm).map Tm.d)) (.slice z.2.2.2.1.1 z.2.2.1.length z.2.2.2.1.2)∧AscT z.2.2.1∧(∀t∈z.2.2.1,Drawn 2 0 t)∧Cur z.2.2.2.2.1 h r z.2.2.2.2.2)
  (fun(i,k,xs,(b,c),μ',h')=>⟨[(0,.val (.pointer (some ⟨r,0,none⟩))),(5,match i with|0=> .row 0 (some r7) 0 0|_+1=> .val (.slice b xs.length c)),(6,.val (.int .i64 k))],[],1,μ',h'⟩) (fun z=>z.2.1)
  (0,1+k0,[],(some ⟨r7,0,none⟩,0),μ0,h1) ⟨by dsimp only;omega,fun _=>⟨rfl,rfl⟩,fun h=>absurd h (by dsimp only;omega),Nat.zero_le _,hr0,(fun _ _ _ h=>nomatch h),(fun _ h=>nomatch h),hc1⟩ (fun(i,_,_,(_,_),_,_)=>match i with|0=>⟨rfl,rfl⟩|_+1=>⟨rfl,rfl⟩) ⟨⟨rfl,rfl,by show some (SV.val (.int .i64 _))=some (SV.val (.int .i64 _));congr 3,trivial⟩,trivial,rfl,rfl⟩ ?_
 clear hc1 hap1
 rintro⟨i,k,xs,⟨b,c⟩,μ1,h1⟩ ⟨hik,hz,hpos,hxl,hr,hasc,hdr,hc1⟩
 dsimp only at hik hz hpos hxl hr hasc hdr hc1
 match i with
 |0=>
  have w_:=hz rfl
  obtain⟨rfl,e⟩:=w_
  obtain⟨rfl,rfl⟩:=Prod.mk.inj e
  refine ifd (fun hlt=>?_) (fun hlt=>absurd hlt (by omega))
  refine cOw (aI hc1.at 2) fun v μ2 h2 hle2 hap2 hR=>?_
  obtain⟨e,hc2,k2,rfl,-,hk22,-⟩:=hR
  obtain rfl:=e.symm
  have hk22:=hk22 (by decide)
  have drawn:∃size:Nat,size≤1000∧1+2*(k2:Int)=(size:Int)∧lvB size≤2:=by
   have w_:k2=0∨k2=1:=by omega
   rcases w_ with rfl|rfl
   ·exact⟨1,by decide,rfl,by rw[lvB,if_neg (by decide)];decide⟩
   ·exact⟨3,by decide,rfl,by rw[xA];decide⟩
  obtain⟨size,hs1,hs2,hs3⟩:=drawn
  refine aB (by omega) (by omega) (aB (by omega) (by omega) ?_)
  rw[hs2]
  refine cOw (cN 0 (by decide) size hs1 (hc1.trans hc2).at) fun v μ3 h3 hle3 hap3 hR=>?_
  obtain⟨hc3,t,hrt,hdt⟩:=hR
  refine cPl (iG (hr.mono hle3) hrt hasc (by omega)) fun v4 μ4 hle4 hR4=>?_
  obtain⟨ys,hry,hya,hym,hy1,hyl⟩:=hR4
  have w_:=Rep.sl hry
  obtain⟨by_,cy,rfl,-⟩:=w_
  rw[List.length_map,List.length_map]at hry ⊢
  refine aB (by omega) (by omega) ⟨(0+1,k-1,ys,(by_,cy),μ4,h3),⟨by dsimp only;omega,(fun e=>by simp at e),fun _=>hy1,by dsimp only;omega,hry,hya,fun y hy=>?_,((hc1.trans hc2).trans hc3).mono hle4⟩,by dsimp only;omega,⟨⟨rfl,rfl,?_,trivial⟩,trivial,rfl,rfl⟩⟩
  ·rcases hym y hy with rfl | hy
   ·exact hdt.mono hs3
   ·exact hdr y hy
  ·show some (SV.val (.int .i64 _)) = some (SV.val (.int .i64 _))
   congr 3;omega
 |i+1=>
  refine ifd (fun hlt=>?_) (fun hlt=>?_)
  ·refine cOw (aI hc1.at 2) fun v μ2 h2 hle2 hap2 hR => ?_
   obtain⟨e,hc2,k2,rfl,-,hk22,-⟩:=hR
   obtain rfl:=e.symm
   have hk22:=hk22 (by decide)
   have drawn:∃size:Nat,size≤1000∧1+2*(k2:Int)=(size:Int)∧lvB size≤2:=by
    have w_:k2=0∨k2=1:=by omega
    rcases w_ with rfl|rfl
    ·exact⟨1,by decide,rfl,by rw[lvB,if_neg (by decide)];decide⟩
    ·exact⟨3,by decide,rfl,by rw[xA];decide⟩
   obtain⟨size,hs1,hs2,hs3⟩:=drawn
   refine aB (by omega) (by omega) (aB (by omega) (by omega) ?_)
   rw[hs2]
   refine cOw (cN 0 (by decide) size hs1 (hc1.trans hc2).at) fun v μ3 h3 hle3 hap3 hR=>?_
   obtain⟨hc3,t,hrt,hdt⟩:=hR
   refine cPl (iG (hr.mono hle3) hrt hasc (by omega)) fun v4 μ4 hle4 hR4=>?_
   obtain⟨ys,hry,hya,hym,hy1,hyl⟩:=hR4
   have w_:=Rep.sl hry
   obtain⟨by_,cy,rfl,-⟩:=w_
   rw[List.length_map,List.length_map]at hry ⊢
   refine aB (by omega) (by omega) ⟨((i+1)+1,k-1,ys,(by_,cy),μ4,h3),⟨by dsimp only;omega,(fun e=>by simp at e),fun _=>hy1,by dsimp only;omega,hry,hya,fun y hy=>?_,((hc1.trans hc2).trans hc3).mono hle4⟩,by dsimp only;omega,⟨⟨rfl,rfl,?_,trivial⟩,trivial,rfl,rfl⟩⟩
   ·rcases hym y hy with rfl | hy
    ·exact hdt.mono hs3
    ·exact hdr y hy
   ·show some (SV.val (.int .i64 _)) = some (SV.val (.int .i64 _))
    congr 3;omega
  ·exact rPl ⟨xs,⟨hasc,hpos (by omega),by omega,hdr⟩,hr⟩
theorem kD{base:Option Addr}{n cap:Nat}(hb:Bytes μ base n)(m:Int)(hm:m≤1000000)(most:Nat)(hm1:1≤most)(h8:most≤8):
  Spec Tryz.prog 12 [.slice base n cap,.int .i64 m,.int .i64 most] μ fun v μ'=>∃xs,Uni most xs∧RepV μ' (.sl 4 ((xs.map T.tm).map Tm.d)) v:=by
 refine Spec.mk Tryz.func12 (by kernel_rfl) ?_
 refine cOw (gU hb m hm) fun v μ1 h1 hle1 hap1 hR=>?_
 obtain⟨e,r,rfl,ho,hc1⟩:=hR
 obtain rfl:=e.symm
 refine cOw (lA hc1.at most hm1 h8) fun v μ2 h2 hle2 hap2 hR=>?_
 exact rPl hR
end
end Go.Vx
namespace Go.Vx
open Go.Proofs Classical
theorem F.eq_of{a b:F}(h1:a.rel=b.rel)(h2:a.args=b.args):a=b:=by
 cases a;cases b;cases h1;cases h2;rfl
section
variable {μ:Mem}
theorem F.invV{f:F}{v:Value}(h:RepV μ f.fc.d v):∃p:Fc.P,v= .agg #[.string f.rel,.slice p.1 f.args.length p.2]∧Sl μ 4 p.1 f.args.length ((f.args.map T.tm).map Tm.d):=by
 have w_:=Fc.inv h
 obtain⟨p,rfl,hA⟩:=w_
 have e:f.fc.args.length=f.args.length:=List.length_map _
 rw[e]
 refine⟨p,rfl,?_⟩
 have hA:Sl μ 4 p.1 f.fc.args.length (f.fc.args.map Tm.d):=hA
 rw[e]at hA
 exact hA
theorem F.elemV{l:List F}{base:Option Addr}{n:Nat}(h:Sl μ 2 base n ((l.map F.fc).map Fc.d)){i:Nat}{x:F}(hx:l[i]? =some x):∃ad,∃p:Fc.P,ElemAt μ base n 2 i ad [.string x.rel,.slice p.1 x.args.length p.2]∧RepV μ x.fc.d (.agg #[.string x.rel,.slice p.1 x.args.length p.2]):=by
 have w_:=Fc.elem h (i:=i) (x:=x.fc) (by rw[List.getElem?_map,hx];rfl)
 obtain⟨ad,p,h1,h2⟩:=w_
 have e:x.fc.cs p=[.string x.rel,.slice p.1 x.args.length p.2]:=by
  have e:x.fc.args.length=x.args.length:=List.length_map _
  show [Value.string x.rel,.slice p.1 x.fc.args.length p.2]=_
  rw[e]
 rw[e]at h1 h2
 exact⟨ad,p,h1,h2⟩
theorem yN{f g:F}{v w:Value}(hv:RepV μ f.fc.d v)(hw:RepV μ g.fc.d w):aM Tryz.prog 41 [v,w] μ (.bool (decide (f=g))):=by
 have w_:=F.invV hv
 obtain⟨p,rfl,hp⟩:=w_
 have w_:=F.invV hw
 obtain⟨q,rfl,hq⟩:=w_
 refine Spec.mk Tryz.func41 (by kernel_rfl) ?_
 intro r2 r3
 refine ifd (fun h=>?_) (fun h=>?_)
 ·refine cGv (yS hp hq) (rGv ?_ rfl)
  congr 1
  rw[Bool.eq_iff_iff,decide_eq_true_eq,decide_eq_true_eq]
  exact⟨fun e=>F.eq_of h e,fun e=>by rw[e]⟩
 ·refine rGv ?_ rfl
  rw[decide_eq_false fun e=>h (by rw[e])]
theorem qNt{l:List F}{f:F}{base:Option Addr}{cap:Nat}{w:Value}(hl:Sl μ 2 base l.length ((l.map F.fc).map Fc.d))(hw:RepV μ f.fc.d w):aM Tryz.prog 20 [.slice base l.length cap,w] μ (.bool (decide (f∈l))):=by
 have hmx:=aH hl.max
 have w_:=F.invV hw
 obtain⟨q,rfl,hq⟩:=w_
 refine Spec.mk Tryz.func20 (by kernel_rfl) ?_
 intro r3
 refine lIn (fun i:Nat=>i≤l.length∧∀(j:Nat) x,j<i→l[j]? =some x→x≠f) (fun i=>⟨[(3,.loc 0 r3 0),(7,.val (.slice base l.length cap)),(8,.val (.int .i64 l.length)),(9,.val (.int .i64 i))],[(0,some (.cells r3 [.val (.string f.rel),.val (.slice q.1 f.args.length q.2)] 41))],1,μ,Mem.nil⟩) (fun i=>l.length-i)
  0 ⟨Nat.zero_le _,fun j x hj=>by omega⟩ (fun _=>⟨rfl,rfl⟩) ⟨⟨rfl,rfl,rfl,rfl,trivial⟩,⟨rfl,trivial⟩,rfl,rfl⟩ ?_
 rintro i ⟨hi,hall⟩
 refine ifd (fun hlt=>?_) (fun hlt=>?_)
 ·have w_ := aSo (l := l) (i := i) (by omega)
  obtain⟨x,hx⟩:=w_
  have w_:=F.elemV hl hx
  obtain⟨ad,p,hel,hrx⟩:=w_
  refine eIn hel ?_
  intro r6
  refine cGv (yN hrx hw) ?_
  refine iIn (fun h=>?_) (fun h=>?_)
  ·have h : x = f := of_decide_eq_true h
   refine rGv ?_ rfl
   rw[decide_eq_true (by rw[←h];exact List.mem_of_getElem? hx)]
  ·have h : x ≠ f := of_decide_eq_false h
   refine aB (by omega) (by omega) ⟨i+1,⟨by omega,fun j y hj hy=>?_⟩,by omega,⟨⟨rfl,rfl,rfl,rfl,trivial⟩,⟨rfl,trivial⟩,rfl,rfl⟩⟩
   by_cases e:j=i
   ·subst e;rw[hx]at hy;cases hy;exact h
   ·exact hall j y (by omega) hy
 ·refine rGv ?_ rfl
  rw[decide_eq_false]
  intro hm
  have w_:=List.getElem?_of_mem hm
  obtain⟨j,hj⟩:=w_
  exact hall j f (by have:=(List.getElem?_eq_some_iff.1 hj).1;omega) hj rfl
theorem qCq{l m:List F}{base base2:Option Addr}{cap cap2:Nat}(hl:Sl μ 2 base l.length ((l.map F.fc).map Fc.d))(hm:Sl μ 2 base2 m.length ((m.map F.fc).map Fc.d)):aM Tryz.prog 17 [.slice base l.length cap,.slice base2 m.length cap2] μ (.bool (decide (∀f∈l,f∈m))):=by
 have hmx:=aH hl.max
 refine Spec.mk Tryz.func17 (by kernel_rfl) ?_
 refine lIn (fun i:Nat=>i≤l.length∧∀(j:Nat) x,j<i→l[j]? =some x→x∈m) (fun i=>⟨[(1,.val (.slice base2 m.length cap2)),(7,.val (.slice base l.length cap)),(8,.val (.int .i64 l.length)),(9,.val (.int .i64 i))],[],0,μ,Mem.nil⟩) (fun i=>l.length-i)
  0 ⟨Nat.zero_le _,fun j x hj=>by omega⟩ (fun _=>⟨rfl,rfl⟩) ⟨⟨rfl,rfl,rfl,rfl,trivial⟩,trivial,rfl,rfl⟩ ?_
 rintro i ⟨hi,hall⟩
 refine ifd (fun hlt=>?_) (fun hlt=>?_)
 ·have w_ := aSo (l := l) (i := i) (by omega)
  obtain⟨x,hx⟩:=w_
  have w_:=F.elemV hl hx
  obtain⟨ad,p,hel,hrx⟩:=w_
  refine eIn hel ?_
  intro r6
  refine cGv (qNt hm hrx) ?_
  refine aL (fun h=>?_) (fun h=>?_)
  ·refine rGv ?_ rfl
   rw[decide_eq_false fun k=>h (k x (List.mem_of_getElem? hx))]
  ·refine aB (by omega) (by omega) ⟨i + 1, ⟨by omega, fun j y hj hy => ?_⟩, by omega, ⟨⟨rfl, rfl, rfl, rfl, trivial⟩, trivial, rfl, rfl⟩⟩
   by_cases e:j=i
   ·subst e;rw[hx]at hy;cases hy;exact h
   ·exact hall j y (by omega) hy
 ·refine rGv ?_ rfl
  rw[decide_eq_true]
  intro f hf
  have w_:=List.getElem?_of_mem hf
  obtain⟨j,hj⟩:=w_
  exact hall j f (by have:=(List.getElem?_eq_some_iff.1 hj).1;omega) hj
end
end Go.Vx
namespace Go.Vx
open Go.Proofs Classical
theorem T.subst_subst{f g:Int→Option T}:∀x:T,(x.subst f).subst g=x.subst fun n=>some (((f n).getD (.var n)).subst g)
 | .nil=>rfl
 | .var _=>rfl
 | .sym _=>rfl
 | .num _=>rfl
 | .pair a b=>by
  simp only[T.subst]
  rw[T.subst_subst a,T.subst_subst b]
def CV(n:Nat)(g:Gl):Prop:=∀x∈g.all,∀t∈x.terms,∀m∈t.toT.vars,0≤m∧m<(n:Int)
theorem CV.own{n:Nat}{g:Gl}(h:CV n g):∀t∈g.terms,∀m∈t.toT.vars,0≤m∧m<(n:Int):=h g (Gl.all_self g)
theorem qFb{p:Pg}{k n:Nat}{r:Rl}(hr:RelOk p k r)(hn:r.arity+r.locals=(n:Int)){L:List (List Gl)}(hL:r.body.cl=some L){c:List Gl}(hc:c∈L){g:Gl}(hg:g∈c):g∈r.body.all∧g.single∧CV n g:=by
 have w_:=Gl.cl_all r.body hL c hc g hg
 obtain⟨h1,h2⟩:=w_
 refine⟨h1,h2,fun x hx t ht m hm=>?_⟩
 have hxm:=Gl.all_thru r.body h1 hx
 have w_:=((hr.body.all r.body x hxm).top.tm t ht).lift
 obtain⟨z,hz,rfl⟩:=w_
 have h3:=hr.vars m (List.mem_flatMap.2 ⟨x,hxm,by rw[Gl.tvars];exact List.mem_flatMap.2 ⟨_,List.mem_map_of_mem ht,hm⟩⟩)
 rw[T.toT_tm]at hm
 have h4:=(T.good_vars hz.1 m hm).1
 omega
theorem qHk{vs ws:List T}{m:Int}(h0:0≤m)(h:m<(vs.length:Int)):bT (vs++ws) m=bT vs m:=by
 rw[bT,bT,if_pos h0,if_pos h0,List.getElem?_append_left (by omega)]
theorem wL{vs ws:List T}{m:Int}(h0:0≤m):bT (vs++ws) (m+vs.length)=bT ws m:=by
 rw[bT,bT,if_pos (by omega),if_pos h0,List.getElem?_append_right (by omega)]
 congr 1;omega
theorem zG{vs:List T}{m:Int}(h0:0≤m)(h:m<(vs.length:Int)):∃y,bT vs m=some y∧vs[m.toNat]? =some y:=by
 have w_:=aSo (l:=vs) (i:=m.toNat) (by omega)
 obtain⟨y,hy⟩:=w_
 exact⟨y,by rw[bT,if_pos h0,hy],hy⟩
section
variable {n m:Nat} {vs ws:List T}
theorem sH(hn:vs.length=n){t:Tm}(h:∀m∈t.toT.vars,0≤m∧m<(n:Int)):t.toT.subst (bT (vs++ws))=t.toT.subst (bT vs):=
 T.subst_congr _ fun m hm=>qHk (h m hm).1 (by have:=(h m hm).2;omega)
theorem wJ(hn:vs.length=n)(hm:ws.length=m){t:Tm}(h:∀k∈t.toT.vars,0≤k∧k<(m:Int)):(t.toT.subst (shF n)).subst (bT (vs++ws))=t.toT.subst (bT ws):=by
 rw[T.subst_subst]
 refine T.subst_congr _ fun k hk=>?_
 have h1:=h k hk
 show some ((bT (vs++ws) (k+(n:Int))).getD (.var (k+n)))=bT ws k
 rw[←hn,wL h1.1]
 have w_:=zG (vs:=ws) h1.1 (by omega)
 obtain⟨y,hy,_⟩:=w_
 rw[hy];rfl
theorem qDw(hn:vs.length=n){g:Gl}(h:CV n g):cJ (vs++ws) g=cJ vs g:=by
 rw[cJ,cJ]
 congr 1
 exact List.map_congr_left fun t ht=>sH hn (h.own t ht)
theorem pI(hn:vs.length=n){g:Gl}(h:CV n g):okS (vs++ws) g↔okS vs g:=by
 have e:(g.terms.map fun t=>t.toT.subst (bT (vs++ws)))=g.terms.map fun t=>t.toT.subst (bT vs):=List.map_congr_left fun t ht=>sH hn (h.own t ht)
 rw[okS,okS,e]
theorem pK(g:Gl)(f h:Int→Option T):((g.put f).terms.map fun t=>t.toT.subst h)=g.terms.map fun t=>(t.toT.subst f).subst h:=by
 rw[Gl.put_terms,List.map_map]
 exact List.map_congr_left fun t _=>by show((t.toT.subst f).tm.toT).subst h=_;rw[T.toT_tm]
theorem qBd(hn:vs.length=n)(hm:ws.length=m){g:Gl}(h:CV m g):cJ (vs++ws) (g.put (shF n))=cJ ws g:=by
 rw[cJ,cJ,Gl.put_name,pK]
 congr 1
 exact List.map_congr_left fun t ht=>wJ hn hm (h.own t ht)
theorem yX(hn:vs.length=n)(hm:ws.length=m){g:Gl}(h:CV m g):okS (vs++ws) (g.put (shF n))↔okS ws g:=by
 have e:(g.terms.map fun t=>(t.toT.subst (shF n)).subst (bT (vs++ws)))=g.terms.map fun t=>t.toT.subst (bT ws):=List.map_congr_left fun t ht=>wJ hn hm (h.own t ht)
 rw[okS,okS,Gl.put_kind,pK,e]
theorem rL(vs:List T)(c d:List Gl):bQ vs (c++d)=bQ vs c++bQ vs d:=by rw[bQ,bQ,bQ,List.filter_append,List.map_append]
theorem qN(hn:vs.length=n){c:List Gl}(h:∀g∈c,CV n g):bQ (vs++ws) c=bQ vs c:=by
 rw[bQ,bQ]
 exact List.map_congr_left fun g hg=>qDw hn (h g (List.mem_filter.1 hg).1)
theorem wC(hn:vs.length=n)(hm:ws.length=m):∀{c:List Gl},(∀g∈c,CV m g)→bQ (vs++ws) (c.map (Gl.put (shF n)))=bQ ws c
 |[],_=>rfl
 |g::c,h=>by
  have ih:=wC hn hm (c:=c) fun x hx=>h x (List.mem_cons_of_mem _ hx)
  have h1:=qBd hn hm (h g (by simp))
  have e:∀(us:List T) (x:Gl) (r:List Gl),bQ us (x::r)=(if x.kind=9 then [cJ us x]else [])++bQ us r:=fun us x r=>by
   rw[bQ,bQ,List.filter_cons]
   by_cases k:x.kind=9<;>simp[k]
  rw[List.map_cons,e,e,ih,h1,Gl.put_kind]
theorem qJp(hn:vs.length=n)(hm:ws.length=m){i:Nat}(hi:i<m){t:Tm}(h:∀k∈t.toT.vars,0≤k∧k<(n:Int)):okS (vs++ws) (eqG n i t)↔ws[i]? =some (t.toT.subst (bT vs)):=by
 have w_:=zG (vs:=ws) (m:=(i:Int)) (by omega) (by omega)
 obtain⟨y,hy,hy2⟩:=w_
 rw[Int.toNat_natCast]at hy2
 have e1:(T.var ((n:Int)+i)).tm.toT.subst (bT (vs++ws))=y:=by
  rw[T.toT_tm]
  show(bT (vs++ws) ((n:Int)+i)).getD _=y
  rw[show(n:Int)+i=(i:Int)+vs.length by omega,wL (by omega),hy];rfl
 have e2:t.toT.subst (bT (vs++ws))=t.toT.subst (bT vs):=sH hn h
 rw[hy2]
 constructor
 ·intro k
  have k:=k (show(2:Int)≠9 by decide) (show(2:Int)≠10 by decide)
  have k:([(T.var ((n:Int)+i)).tm,t].map fun t=>t.toT.subst (bT (vs++ws)))[0]? =([(T.var ((n:Int)+i)).tm,t].map fun t=>t.toT.subst (bT (vs++ws)))[1]?:=k
  rw[List.map_cons,List.map_cons,List.map_nil,e1,e2]at k
  exact k
 ·intro k _ _
  show([(T.var ((n:Int)+i)).tm,t].map fun t=>t.toT.subst (bT (vs++ws)))[0]? =([(T.var ((n:Int)+i)).tm,t].map fun t=>t.toT.subst (bT (vs++ws)))[1]?
  rw[List.map_cons,List.map_cons,List.map_nil,e1,e2]
  exact k
theorem qNo(hn:vs.length=n)(hm:ws.length=m){ts:List Tm}(hl:ts.length≤m)(h:∀t∈ts,∀k∈t.toT.vars,0≤k∧k<(n:Int)):
  (∀x∈kY n ts,okS (vs++ws) x)↔ts.map (fun t=>t.toT.subst (bT vs))=ws.take ts.length:=by
 constructor
 ·intro k
  refine List.ext_getElem? fun i=>?_
  rw[List.getElem?_map,List.getElem?_take]
  by_cases hi:i<ts.length
  ·have w_ := aSo (l := ts) hi
   obtain⟨t,ht⟩:=w_
   rw[ht,if_pos hi,(qJp hn hm (by omega) (h t (mAt ht))).1 (k _ (List.mem_iff_getElem?.2 ⟨i,by rw[kY,List.getElem?_mapIdx,ht];rfl⟩))]
   rfl
  ·rw[if_neg hi,List.getElem?_eq_none (by omega)];rfl
 ·intro k x hx
  have w_:=List.mem_iff_getElem?.1 hx
  obtain⟨i,hi⟩:=w_
  rw[kY,List.getElem?_mapIdx]at hi
  have w_:=Option.map_eq_some_iff.1 hi
  obtain⟨t,ht,rfl⟩:=w_
  have hil:=(List.getElem?_eq_some_iff.1 ht).1
  refine(qJp hn hm (by omega) (h t (mAt ht))).2 ?_
  have e:=congrArg (fun l:List T=>l[i]?) k
  rw[List.getElem?_map,ht,List.getElem?_take,if_pos hil]at e
  exact e.symm
theorem qCj{l:List Gl}{a:Nat}{g:Gl}(hg:l[a]? =some g):l=l.take a++g::l.drop (a+1):=by
 have hl:=(List.getElem?_eq_some_iff.1 hg).1
 have e:=(List.getElem?_eq_some_iff.1 hg).2
 rw[←e,←List.drop_eq_getElem_cons hl,List.take_append_drop]
theorem qIu(hn:vs.length=n)(hm:ws.length=m){l d:List Gl}{a:Nat}{g:Gl}(hg:l[a]? =some g)(h9:g.kind=9)(hl:∀x∈l,CV n x)(hd:∀x∈d,CV m x)(har:g.terms.length≤m):
  (∀x∈gC l a g n d,okS (vs++ws) x)↔(∀x∈l,okS vs x)∧(∀x∈d,okS ws x)∧(cJ vs g).args=ws.take g.terms.length:=by
 have hE:=qNo (n:=n) (m:=m) hn hm har (hl g (mAt hg)).own
 have hs:=qCj hg
 constructor
 ·intro k
  refine⟨fun x hx=>?_,fun x hx=>?_,hE.1 fun x hx=>k x (by rw[gC];simp[hx])⟩
  ·by_cases e : x = g
   ·subst e;exact fun h=>absurd h9 h
   rw[hs]at hx
   refine(pI hn (hl x (by rw[hs];exact hx))).1 (k x ?_)
   rcases List.mem_append.1 hx with hx|hx
   ·rw[gC];simp[hx]
   ·rcases List.mem_cons.1 hx with hx | hx
    ·exact absurd hx e
    ·rw[gC];simp[hx]
  ·exact(yX hn hm (hd x hx)).1 (k _ (by rw[gC];simp only[List.mem_append];exact .inl (.inr (List.mem_map_of_mem hx))))
 ·rintro ⟨k1, k2, k3⟩ x hx
  rw[gC]at hx
  rcases List.mem_append.1 hx with hx|hx
  ·rcases List.mem_append.1 hx with hx | hx
   ·rcases List.mem_append.1 hx with hx | hx
    ·have := List.mem_of_mem_take hx
     exact(pI hn (hl x this)).2 (k1 x this)
    ·exact hE.2 k3 x hx
   ·have w_ := List.mem_map.1 hx
    obtain⟨y,hy,rfl⟩:=w_
    exact(yX hn hm (hd y hy)).2 (k2 y hy)
  ·have := List.mem_of_mem_drop hx
   exact(pI hn (hl x this)).2 (k1 x this)
theorem qKn(vs:List T)(n:Int)(ts:List Tm):bQ vs (kY n ts)=[]:=by
 rw[bQ,List.filter_eq_nil_iff.2,List.map_nil]
 intro x hx
 have w_:=List.mem_iff_getElem?.1 hx
 obtain⟨i,hi⟩:=w_
 rw[kY,List.getElem?_mapIdx]at hi
 have w_:=Option.map_eq_some_iff.1 hi
 obtain⟨t,ht,rfl⟩:=w_
 rw[decide_eq_true_eq]
 show ¬(2:Int)=9
 decide
theorem qGb(hn:vs.length=n)(hm:ws.length=m){l d:List Gl}{a:Nat}{g:Gl}(hl:∀x∈l,CV n x)(hd:∀x∈d,CV m x):
  bQ (vs++ws) (gC l a g n d)=bQ vs (l.take a)++bQ ws d++bQ vs (l.drop (a+1)):=by
 rw[gC,rL,rL,rL,qKn,List.append_nil,wC hn hm hd,qN hn fun x hx=>hl x (List.mem_of_mem_take hx),qN hn fun x hx=>hl x (List.mem_of_mem_drop hx)]
theorem qGa{vs:List T}{l:List Gl}{a:Nat}{g:Gl}(hg:l[a]? =some g)(h9:g.kind=9):bQ vs l=bQ vs (l.take a)++cJ vs g::bQ vs (l.drop (a+1)):=by
 conv=>lhs;rw[qCj hg]
 rw[rL]
 congr 1
 rw[bQ,bQ,List.filter_cons,if_pos (by rw[h9];rfl),List.map_cons]
end
theorem qJi:∀{c acc:List Gl},(∀g∈c,g.single)→Gl.clAnd c [acc]=some [acc++c]
 |[],acc,_=>by rw[Gl.clAnd,List.append_nil]
 |g::c,acc,h=>by
  have h1:=h g (by simp)
  have e:g.cl=some [[g]]:=by rw[Gl.cl_eq,if_neg h1.1,if_neg h1.2.1,if_neg h1.2.2.2,if_neg h1.2.2.1]
  rw[Gl.clAnd,e,Option.bind_some]
  show(if(cK [acc] [[g]]).length≤64 then Gl.clAnd c (cK [acc] [[g]])else none)=_
  have e2:cK [acc] [[g]]=[acc++[g]]:=by simp[cK]
  rw[e2,if_pos (by simp),qJi fun x hx=>h x (List.mem_cons_of_mem _ hx),List.append_assoc]
  rfl
theorem qFa:∀{L acc:List (List Gl)},(∀c∈L,∀g∈c,g.single)→acc.length+L.length≤64→Gl.clOr (L.map cgA) acc=some (acc++L)
 |[],acc,_,_=>by rw[List.map_nil,Gl.clOr,List.append_nil]
 |c::L,acc,h,hl=>by
  have e:(cgA c).cl=some [c]:=by
   rw[Gl.cl_eq,if_neg (show ¬(cgA c).kind=0 from show ¬(7:Int)=0 by decide),if_neg (show ¬(cgA c).kind=1 from show ¬(7:Int)=1 by decide),if_neg (show ¬(cgA c).kind=8 from show ¬(7:Int)=8 by decide),if_pos (show(cgA c).kind=7 from rfl)]
   exact qJi (h c (by simp))
  rw[List.length_cons]at hl
  rw[List.map_cons,Gl.clOr,e,Option.bind_some]
  show(if(acc++[c]).length≤64 then Gl.clOr (L.map cgA) (acc++[c])else none)=_
  rw[if_pos (by simp;omega),qFa (fun x hx=>h x (List.mem_cons_of_mem _ hx)) (by simp;omega),List.append_assoc]
  rfl
theorem qQz{L:List (List Gl)}(h:∀c∈L,∀g∈c,g.single)(hl:L.length≤64):(cgG L).cl=some L:=by
 rw[Gl.cl_eq,if_neg (show ¬(cgG L).kind=0 from show ¬(8:Int)=0 by decide),if_neg (show ¬(cgG L).kind=1 from show ¬(8:Int)=1 by decide),if_pos (show(cgG L).kind=8 from rfl)]
 exact qFa h (by simpa using hl)
end Go.Vx
namespace Go.Vx
open Go.Proofs Classical
section
variable {p:Pg} {nm:ByteArray} {cl ca:Int} {x:UnfD} {ds:List (List Gl)}
noncomputable def UnfD.nr(x:UnfD)(ds:List (List Gl)):Rl:=⟨x.r.name,x.r.arity,x.r.locals+x.q.arity+x.q.locals,cgG (x.ls ds)⟩
theorem UnfD.rels_other{k:Nat}(h:k≠x.k):(x.pg p ds).rels[k]? =p.rels[k]?:=by
 show(p.rels.set x.k _)[k]? =_
 rw[List.getElem?_set_ne (Ne.symm h)]
theorem UnfD.rels_at(h:UnfAt p nm cl ca x):(x.pg p ds).rels[x.k]? =some (x.nr ds):=by
 have hl:=(List.getElem?_eq_some_iff.1 h.rel).1
 show(p.rels.set x.k _)[x.k]? =_
 rw[List.getElem?_set_self hl];rfl
theorem UnfAt.singles(h:UnfAt p nm cl ca x)(h2:jX p x ds):∀c∈x.ls ds,∀g∈c,g.single:=fun c hc g hg=>by
 have hcls:∀z∈x.cls,∀y∈z,y.single:=fun z hz y hy=>(Gl.cl_all _ h.cl z hz y hy).2
 have hds:∀z∈ds,∀y∈z,y.single:=fun z hz y hy=>(Gl.cl_all _ h2.1 z hz y hy).2
 rw[UnfD.ls,qIs]at hc
 rcases List.mem_append.1 hc with hc|hc
 ·rcases List.mem_append.1 hc with hc | hc
  ·exact hcls c (List.mem_of_mem_take hc) g hg
  ·have w_ := List.mem_map.1 hc
   obtain⟨d,hd,rfl⟩:=w_
   rw[gC]at hg
   rcases List.mem_append.1 hg with hg|hg
   ·rcases List.mem_append.1 hg with hg | hg
    ·rcases List.mem_append.1 hg with hg | hg
     ·exact hcls x.l (mAt h.cls) g (List.mem_of_mem_take hg)
     ·have w_ := List.mem_iff_getElem?.1 hg
      obtain⟨i,hi⟩:=w_
      rw[kY,List.getElem?_mapIdx]at hi
      have w_:=Option.map_eq_some_iff.1 hi
      obtain⟨t,ht,rfl⟩:=w_
      exact⟨show(2:Int)≠0 by decide,show(2:Int)≠1 by decide,show(2:Int)≠7 by decide,show(2:Int)≠8 by decide⟩
    ·have w_ := List.mem_map.1 hg
     obtain⟨y,hy,rfl⟩:=w_
     have:=hds d hd y hy
     rw[Gl.single,Gl.put_kind]
     exact this
   ·exact hcls x.l (mAt h.cls) g (List.mem_of_mem_drop hg)
 ·exact hcls c (List.mem_of_mem_drop hc) g hg
theorem UnfAt.newcl(h:UnfAt p nm cl ca x)(h2:jX p x ds):(x.nr ds).body.cl=some (x.ls ds):=qQz (h.singles h2) (Nat.le_trans h2.2.1.1 (by decide))
structure UnfK (p:Pg) (x:UnfD) (ds:List (List Gl)) (n m:Nat):Prop where
 hn:x.r.arity+x.r.locals=(n:Int)
 hm:x.q.arity+x.q.locals=(m:Int)
 g9:x.g.kind=9
 len:x.q.arity=x.g.terms.length
 low:x.g.terms.length≤m
 vl:∀c∈x.cls,∀g∈c,CV n g
 vd:∀d∈ds,∀g∈d,CV m g
theorem qJu{p:Pg}:∀g:Gl,FitAll p g→∀x∈g.all,FitAll p x:=
 Gl.ind fun g ih h x hx=>by
  rw[Gl.all_eq]at hx
  rcases List.mem_cons.1 hx with rfl|hx
  ·exact h
  ·have w_ := List.mem_flatMap.1 hx
   obtain⟨y,hy,hx⟩:=w_
   exact ih y hy (h.sub y hy) x hx
theorem UnfAt.known(hp:p.Ok)(h:UnfAt p nm cl ca x)(h2:jX p x ds):∃n m:Nat,UnfK p x ds n m:=by
 have hr:=hp.2 x.k x.r h.rel
 obtain⟨j,hj1,hj2⟩:=h.called
 have hq:=hp.2 j x.q hj2
 have h0:=hr.ar0
 have h1:=hr.lo0
 have h3:=hq.ar0
 have h4:=hq.lo0
 have w_:=gX h.pos
 obtain⟨g',hg1,hg2⟩:=w_
 rw[h.goal]at hg1
 cases hg1
 have hn:x.r.arity+x.r.locals=((x.r.arity+x.r.locals).toNat:Int):=by omega
 have hm:x.q.arity+x.q.locals=((x.q.arity+x.q.locals).toNat:Int):=by omega
 have hga:=(Gl.cl_all _ h.cl x.l (mAt h.cls) x.g (mAt h.goal)).1
 have w_:=(qJu _ hr.calls _ hga).top hg2
 obtain⟨i,r',e1,e2,e3⟩:=w_
 obtain rfl:i=j:=by omega
 rw[hj2]at e2
 cases e2
 exact⟨_,_,hn,hm,hg2,e3,by omega,fun c hc g hg=>(qFb hr hn h.cl hc hg).2.2,fun d hd g hg=>(qFb hq hm h2.1 hd hg).2.2⟩
theorem rH{p:Pg}(hp:p.Pos){k:Nat}{r:Rl}(hr:p.rels[k]? =some r){L:List (List Gl)}(hL:r.body.cl=some L){c:List Gl}(hc:c∈L):∀g∈c,g.kind≠10:=fun g hg=>hp.2 r (mAt hr) g (Gl.cl_all _ hL c hc g hg).1
theorem qDd(h:UnfAt p nm cl ca x)(h2:jX p x ds)(hpos:p.Pos){N:Int}{d:List Gl}(hd:d∈ds):∀g∈gC x.l x.a x.g N d,g.kind≠10:=fun g hg=>by
 have hl:=rH hpos h.rel h.cl (mAt h.cls)
 obtain⟨j,_,hj2⟩:=h.called
 have hdd:=rH hpos hj2 h2.1 hd
 rw[gC]at hg
 rcases List.mem_append.1 hg with hg|hg
 ·rcases List.mem_append.1 hg with hg | hg
  ·rcases List.mem_append.1 hg with hg | hg
   ·exact hl g (List.mem_of_mem_take hg)
   ·have w_ := List.mem_iff_getElem?.1 hg
    obtain⟨i,hi⟩:=w_
    rw[kY,List.getElem?_mapIdx]at hi
    have w_:=Option.map_eq_some_iff.1 hi
    obtain⟨t,ht,rfl⟩:=w_
    exact show(2:Int)≠10 by decide
  ·have w_ := List.mem_map.1 hg
   obtain⟨y,hy,rfl⟩:=w_
   rw[Gl.put_kind]
   exact hdd y hy
 ·exact hl g (List.mem_of_mem_drop hg)
theorem qRm(_h:UnfAt p nm cl ca x){i:Nat}{c:List Gl}(hc:x.cls[i]? =some c)(hi:i<x.c):(x.ls ds)[i]? =some c:=by
 have hl:=(List.getElem?_eq_some_iff.1 hc).1
 rw[UnfD.ls,qIs,List.append_assoc,List.getElem?_append_left (by rw[List.length_take];omega),List.getElem?_take,if_pos hi,hc]
theorem qRn(h:UnfAt p nm cl ca x){j:Nat}{d:List Gl}(hd:ds[j]? =some d):(x.ls ds)[x.c+j]? =some (gC x.l x.a x.g (x.r.arity+x.r.locals) d):=by
 have hl:=(List.getElem?_eq_some_iff.1 h.cls).1
 have hj:=(List.getElem?_eq_some_iff.1 hd).1
 have e:(x.cls.take x.c).length=x.c:=by rw[List.length_take];omega
 rw[UnfD.ls,qIs,List.append_assoc,List.getElem?_append_right (by omega),e,List.getElem?_append_left (by rw[List.length_map];omega),show x.c+j-x.c=j by omega,List.getElem?_map,hd];rfl
theorem qNy(h:UnfAt p nm cl ca x){i:Nat}{c:List Gl}(hc:x.cls[i]? =some c)(hi:x.c<i):(x.ls ds)[i+ds.length-1]? =some c:=by
 have hl:=(List.getElem?_eq_some_iff.1 h.cls).1
 have hj:=(List.getElem?_eq_some_iff.1 hc).1
 have e:(x.cls.take x.c).length=x.c:=by rw[List.length_take];omega
 rw[UnfD.ls,qIs,List.append_assoc,List.getElem?_append_right (by omega),e,List.getElem?_append_right (by rw[List.length_map];omega),List.length_map,List.getElem?_drop,←hc]
 congr 1;omega
end
end Go.Vx
namespace Go.Vx
open Go.Proofs Classical
theorem sW(U:List T):∀vs:List T,(∀v∈vs,v∈U)→∃w,w<U.length ^ vs.length∧dR U vs.length w=vs
 |[],_=>⟨0,by simp,rfl⟩
 |v::vs,h=>by
  have w_:=sW U vs fun x hx=>h x (List.mem_cons_of_mem _ hx)
  obtain⟨w,hw,e⟩:=w_
  have w_:=List.getElem?_of_mem (h v (by simp))
  obtain⟨j,hj⟩:=w_
  have hjl:=(List.getElem?_eq_some_iff.1 hj).1
  refine⟨j+U.length*w,?_,?_⟩
  ·have h1 : U.length * w + U.length ≤ U.length * U.length ^ vs.length := by rw [← Nat.mul_succ]; exact Nat.mul_le_mul_left _ hw
   rw[List.length_cons,Nat.pow_succ,Nat.mul_comm (U.length ^ vs.length)]
   omega
  ·rw [List.length_cons, dR, Nat.add_mul_mod_self_left, Nat.mod_eq_of_lt hjl, Nat.add_mul_div_left _ _ (by omega), Nat.div_eq_of_lt hjl, Nat.zero_add, e, List.getD_eq_getElem?_getD, hj]
   rfl
theorem gQ{p:Pg}{U:List T}(hU:0<U.length){ru:Ru}:ru∈cC p U↔∃r L i c vs,IsRule p U ru r L i c vs:=by
 constructor
 ·intro hr
  have w_:=List.mem_flatMap.1 hr
  obtain⟨rel,hrel,hr⟩:=w_
  rw[cD]at hr
  split at hr
  ·simp at hr
  ·rename_i L hL
   rw[aY,List.mem_flatMap]at hr
   obtain⟨i,hi,hr⟩:=hr
   rw[List.mem_range]at hi
   have w_:=aSo (l:=L) (i:=i) hi
   obtain⟨c,hc⟩:=w_
   have ec:L.getD i []=c:=by rw[List.getD_eq_getElem?_getD,hc];rfl
   rw[ec,bI,List.mem_filterMap]at hr
   obtain⟨w,-,hr⟩:=hr
   rw[dY]at hr
   split at hr
   ·rename_i hok
    cases hr
    exact⟨rel,L,i,c,_,hrel,hL,hc,gG ..,mR U hU _ _,hok,rfl⟩
   ·cases hr
 ·rintro ⟨r, L, i, c, vs, h⟩
  have w_:=sW U vs h.uni
  obtain⟨w,hw,e⟩:=w_
  rw[h.len]at hw e
  refine List.mem_flatMap.2 ⟨r,h.rel,?_⟩
  rw[cD,h.cl]
  show ru∈aY U r L L.length
  rw[aY,List.mem_flatMap]
  refine⟨i,List.mem_range.2 (List.getElem?_eq_some_iff.1 h.at_).1,?_⟩
  have ec:L.getD i []=c:=by rw[List.getD_eq_getElem?_getD,h.at_];rfl
  rw[ec,bI,List.mem_filterMap]
  refine⟨w,List.mem_range.2 hw,?_⟩
  rw[dY,e,if_pos h.ok,h.eq]
end Go.Vx
namespace Go.Vx
open Go.Proofs Classical
theorem qKx{rs:List Ru}{n i:Nat}(h:i≤n):(stD rs n)[i]? =some (fsD (stF rs i)):=by
 rw[stD,List.getElem?_map,List.getElem?_range (by omega)];rfl
section
variable {μ:Mem}
theorem sG{rs:List Ru}{n i:Nat}{b:Option Addr}(h:Sl μ 1 b (n+1) (stD rs n))(hi:i≤n):∃ad,∃q:Option Addr×Nat,ElemAt μ b (n+1) 1 i ad [.slice q.1 (stF rs i).length q.2]∧FsV μ (stF rs i) (.slice q.1 (stF rs i).length q.2):=by
 have w_:=h.get i (fsD (stF rs i)) (qKx hi)
 obtain⟨ad,cs,h1,h2⟩:=w_
 have h3:Rep μ (fsD (stF rs i)) cs:=h2
 have hl:=Rep.len _ _ h3
 match cs,hl with
 |[v],_=>
  have h4:FsV μ (stF rs i) v:=h3
  have w_:=FsV.sl h4
  obtain⟨b5,c5,rfl,-,_⟩:=w_
  exact⟨ad,(b5,c5),h1,h4⟩
end
end Go.Vx
namespace Go.Vx
open Go.Proofs Classical
theorem uI{U vs:List T}{c:List Gl}(hk:∀g∈c,g.kind≠10):(∀g∈c,okG U vs g)↔(∀g∈c,okS vs g)∧∀f∈bQ vs c,∀a∈f.args,a∈U:=by
 constructor
 ·intro h
  refine⟨fun g hg h9 h10=>?_,fun f hf a ha=>?_⟩
  ·have := h g hg
   rwa [okG,if_neg h9,if_neg h10]at this
  ·rw [bQ] at hf
   have w_:=List.mem_map.1 hf
   obtain⟨g,hg,rfl⟩:=w_
   have w_:=List.mem_filter.1 hg
   obtain⟨hg,h9⟩:=w_
   have:=h g hg
   rw[okG,if_pos (of_decide_eq_true h9)]at this
   exact this a ha
 ·rintro ⟨h1, h2⟩ g hg
  rw[okG]
  by_cases h9:g.kind=9
  ·rw [if_pos h9]
   exact h2 _ (List.mem_map_of_mem (List.mem_filter.2 ⟨hg,by rw[decide_eq_true_eq];exact h9⟩))
  ·rw [if_neg h9, if_neg (hk g hg)]
   exact h1 g hg h9 (hk g hg)
section
variable {p:Pg} {nm:ByteArray} {cl ca:Int} {x:UnfD} {ds:List (List Gl)} {U:List T}
theorem ls_inv(h:UnfAt p nm cl ca x){i:Nat}{c:List Gl}(hc:(x.ls ds)[i]? =some c):(∃j,j≠x.c∧x.cls[j]? =some c)∨∃(j:Nat) (d:List Gl),ds[j]? =some d∧c=gC x.l x.a x.g (x.r.arity+x.r.locals) d:=by
 have hl:=(List.getElem?_eq_some_iff.1 h.cls).1
 have e:(x.cls.take x.c).length=x.c:=by rw[List.length_take];omega
 rw[UnfD.ls,qIs,List.append_assoc]at hc
 by_cases h1:i<x.c
 ·rw [List.getElem?_append_left (by omega), List.getElem?_take, if_pos h1] at hc
  exact .inl ⟨i,by omega,hc⟩
 rw[List.getElem?_append_right (by omega),e]at hc
 by_cases h2:i-x.c<ds.length
 ·rw [List.getElem?_append_left (by rw [List.length_map]; exact h2), List.getElem?_map] at hc
  have w_:=Option.map_eq_some_iff.1 hc
  obtain⟨d,hd,rfl⟩:=w_
  exact .inr ⟨_,d,hd,rfl⟩
 ·rw [List.getElem?_append_right (by rw [List.length_map]; omega), List.length_map, List.getElem?_drop] at hc
  exact .inl ⟨_,by omega,hc⟩
theorem qRz{p:Pg}{r:Rl}(h:r∈p.rels):∃k:Nat,p.rels[k]? =some r:=by
 have w_:=List.getElem?_of_mem h
 exact w_
theorem qPf(hp:p.Ok)(h:UnfAt p nm cl ca x)(h2:jX p x ds){n m:Nat}(K:UnfK p x ds n m){vs:List T}(hU:0<U.length){r2:Ru}(hr:r2∈cC p U)(e:r2.head=cJ vs x.g):∃(j:Nat) (d:List Gl) (ws:List T),ds[j]? =some d∧ws.length=m∧(∀a∈ws,a∈U)∧(∀g∈d,okG U ws g)∧r2.pos=bQ ws d∧(cJ vs x.g).args=ws.take x.g.terms.length:=by
 have w_:=(gQ hU).1 hr
 obtain⟨r,L,i,c,ws,k⟩:=w_
 have w_:=qRz k.rel
 obtain⟨k2,hk2⟩:=w_
 have hro:=hp.2 k2 r hk2
 have hat:=hro.at_
 have w_:=h.called
 obtain⟨j,j1,j2⟩:=w_
 have en:r.name=x.g.name:=by
  have:=congrArg F.rel e
  rw[k.eq]at this
  exact this
 have:k2=j:=by rw[en]at hat;omega
 subst this
 have e3:r=x.q:=by rw[j2]at hk2;exact(Option.some.inj hk2).symm
 subst e3
 have e4:L=ds:=by
  have:=h2.1
  have k1:=k.cl
  rw[this]at k1;exact(Option.some.inj k1).symm
 subst e4
 refine⟨i,c,ws,k.at_,by have:=k.len;have:=K.hm;omega,k.uni,k.ok,by rw[k.eq];rfl,?_⟩
 have:=congrArg F.args e
 rw[k.eq]at this
 rw[←this]
 show ws.take x.q.arity.toNat=_
 have:=K.len
 congr 1;omega
theorem qWa(_hp:p.Pos)(h:UnfAt p nm cl ca x)(h2:jX p x ds){n m:Nat}(K:UnfK p x ds n m)(hU:0<U.length){vs ws:List T}(hn:vs.length=n)(hm:ws.length=m)(hvs:∀a∈vs,a∈U)(hws:∀a∈ws,a∈U){j:Nat}{d:List Gl}(hd:ds[j]? =some d):
  (∀g∈gC x.l x.a x.g n d,okG U (vs++ws) g)→dZ (x.nr ds) (x.c+j) (gC x.l x.a x.g n d) (vs++ws)∈cC (x.pg p ds) U:=fun hok=>by
 have h3:=K.hn
 have h4:=K.hm
 refine(gQ hU).2 ⟨x.nr ds,x.ls ds,x.c+j,_,_,mAt (UnfD.rels_at (p:=p) h),h.newcl h2,by rw[qRn h hd,h3],?_,fun a ha=>?_,hok,rfl⟩
 ·show (vs ++ ws).length = (x.r.arity + (x.r.locals + x.q.arity + x.q.locals)).toNat
  rw[List.length_append];omega
 ·rcases List.mem_append.1 ha with ha | ha
  ·exact hvs a ha
  ·exact hws a ha
theorem qFm(_h0:0≤x.r.arity){vs ws:List T}(hl:x.r.arity.toNat≤vs.length)(i i':Nat)(c c':List Gl):(dZ (x.nr ds) i c (vs++ws)).head=(dZ x.r i' c' vs).head:=by
 show F.mk x.r.name ((vs++ws).take x.r.arity.toNat)=F.mk x.r.name (vs.take x.r.arity.toNat)
 rw[List.take_append_of_le_length hl]
theorem qVs(hpos:p.Pos)(h:UnfAt p nm cl ca x)(h2:jX p x ds)(hU:0<U.length){r:Ru}(hr:r∈cC p U):
  (∃r'∈cC (x.pg p ds) U,r'.head=r.head∧r'.pos=r.pos)∨∃A g B,r.pos=A++g::B∧∀r2∈cC p U,r2.head=g→∃r'∈cC (x.pg p ds) U,r'.head=r.head∧r'.pos=A++r2.pos++B:=by
 have hp:=hpos.1
 have w_:=h.known hp h2
 obtain⟨n,m,K⟩:=w_
 have w_:=(gQ hU).1 hr
 obtain⟨rl,L,i,c,vs,k⟩:=w_
 have w_:=qRz k.rel
 obtain⟨kk,hkk⟩:=w_
 by_cases hkx:kk=x.k
 ·subst hkx
  have er:rl=x.r:=by
   have:=h.rel
   rw[hkk]at this;exact Option.some.inj this
  subst er
  have eL:L=x.cls:=by
   have:=h.cl
   have k1:=k.cl
   rw[this]at k1;exact(Option.some.inj k1).symm
  subst eL
  have hro:=hp.2 _ _ hkk
  have ha0:=hro.ar0
  have hl0:=hro.lo0
  have hvn:vs.length=n:=by have:=k.len;have:=K.hn;omega
  have hvl:x.r.arity.toNat≤vs.length:=by have:=k.len;omega
  have hcv:=K.vl c (mAt k.at_)
  have hck:=rH hpos hkk k.cl (mAt k.at_)
  have w_:=(uI hck).1 k.ok
  obtain⟨ho1,ho2⟩:=w_
  by_cases hic:i=x.c
  ·subst hic
   have ec:c=x.l:=by
    have:=h.cls
    have k1:=k.at_
    rw[this]at k1;exact(Option.some.inj k1).symm
   subst ec
   have hpa:=qGa (vs:=vs) h.goal K.g9
   refine .inr ⟨_,_,_,by rw[k.eq];exact hpa,fun r2 hr2 e2=>?_⟩
   have w_:=qPf hp h h2 K hU hr2 e2
   obtain⟨j,d,ws,hd,hwm,hwu,hwo,hwp,hwa⟩:=w_
   have hdv:=K.vd d (mAt hd)
   have w_:=h.called
   obtain⟨jq,_,hjq⟩:=w_
   have hdk:=rH hpos hjq h2.1 (mAt hd)
   have w_:=(uI hdk).1 hwo
   obtain⟨hd1,hd2⟩:=w_
   have hpu:=qGb (a:=x.a) (g:=x.g) hvn hwm hcv hdv
   refine⟨_,qWa hpos h h2 K hU hvn hwm k.uni hwu hd ((uI (qDd h h2 hpos (mAt hd))).2 ⟨(qIu hvn hwm h.goal K.g9 hcv hdv K.low).2 ⟨ho1,hd1,hwa⟩,fun f hf=>?_⟩),?_,?_⟩
   ·rw [hpu] at hf
    rw[hpa]at ho2
    rcases List.mem_append.1 hf with hf|hf
    ·rcases List.mem_append.1 hf with hf | hf
     ·exact ho2 f (List.mem_append_left _ hf)
     ·exact hd2 f hf
    ·exact ho2 f (List.mem_append_right _ (List.mem_cons_of_mem _ hf))
   ·rw [k.eq]
    exact qFm ha0 hvl _ _ _ _
   ·show bQ (vs ++ ws) (gC x.l x.a x.g n d) = _
    rw[hpu,hwp]
  ·have w_ := List.exists_mem_of_length_pos hU
   obtain⟨u0,hu0⟩:=w_
   have hwl:(List.replicate m u0).length=m:=List.length_replicate
   have hpe:bQ (vs++List.replicate m u0) c=bQ vs c:=qN hvn hcv
   have hok':∀g∈c,okG U (vs++List.replicate m u0) g:=(uI hck).2 ⟨fun g hg=>(pI hvn (hcv g hg)).2 (ho1 g hg),by rw[hpe];exact ho2⟩
   have hi':∃i':Nat,(x.ls ds)[i']? =some c:=by
    by_cases hlt:i<x.c
    ·exact⟨_,qRm h k.at_ hlt⟩
    ·exact⟨_,qNy h k.at_ (by omega)⟩
   obtain⟨i',hi'⟩:=hi'
   refine .inl ⟨dZ (x.nr ds) i' c (vs++List.replicate m u0),(gQ hU).2 ⟨x.nr ds,x.ls ds,i',c,_,mAt (UnfD.rels_at (p:=p) h),h.newcl h2,hi',?_,fun a ha=>?_,hok',rfl⟩,?_,?_⟩
   ·show (vs ++ List.replicate m u0).length = (x.r.arity + (x.r.locals + x.q.arity + x.q.locals)).toNat
    have:=K.hn
    have:=K.hm
    rw[List.length_append];omega
   ·rcases List.mem_append.1 ha with ha | ha
    ·exact k.uni a ha
    ·rw[List.eq_of_mem_replicate ha];exact hu0
   ·rw [k.eq]
    exact qFm ha0 hvl _ _ _ _
   ·rw[k.eq];exact hpe
 ·exact .inl ⟨r,(gQ hU).2 ⟨rl,L,i,c,vs,mAt (by rw[UnfD.rels_other hkx];exact hkk),k.cl,k.at_,k.len,k.uni,k.ok,k.eq⟩,rfl,rfl⟩
theorem qVr(hpos:p.Pos)(h:UnfAt p nm cl ca x)(h2:jX p x ds)(hU:0<U.length){r':Ru}(hr:r'∈cC (x.pg p ds) U):
  (∃r∈cC p U,r.head=r'.head∧r.pos=r'.pos)∨∃r∈cC p U,∃r2∈cC p U,∃A B,r.pos=A++r2.head::B∧r.head=r'.head∧r'.pos=A++r2.pos++B:=by
 have hp:=hpos.1
 have w_:=h.known hp h2
 obtain⟨n,m,K⟩:=w_
 have w_:=(gQ hU).1 hr
 obtain⟨rl,L,i,c,vv,k⟩:=w_
 have w_:=qRz k.rel
 obtain⟨kk,hkk⟩:=w_
 by_cases hkx:kk=x.k
 ·subst hkx
  have er:rl=x.nr ds:=by
   have:=UnfD.rels_at (p:=p) (ds:=ds) h
   rw[hkk]at this;exact Option.some.inj this
  subst er
  have eL:L=x.ls ds:=by
   have:=h.newcl h2
   have k1:=k.cl
   rw[this]at k1;exact(Option.some.inj k1).symm
  subst eL
  have hro:=hp.2 _ _ h.rel
  have ha0:=hro.ar0
  have hl0:=hro.lo0
  have hkl:vv.length=(x.r.arity+(x.r.locals+x.q.arity+x.q.locals)).toNat:=k.len
  have h3:=K.hn
  have h4:=K.hm
  have w_:∃vs ws:List T,vv=vs++ws∧vs.length=n∧ws.length=m:=⟨vv.take n,vv.drop n,(List.take_append_drop ..).symm,by rw[List.length_take];omega,by rw[List.length_drop];omega⟩
  obtain⟨vs,ws,rfl,hvn,hwm⟩:=w_
  have hvl:x.r.arity.toNat≤vs.length:=by omega
  have hvu:∀a∈vs,a∈U:=fun a ha=>k.uni a (List.mem_append_left _ ha)
  have hwu:∀a∈ws,a∈U:=fun a ha=>k.uni a (List.mem_append_right _ ha)
  rcases ls_inv h k.at_ with⟨j,hj,hcj⟩|⟨j,d,hd,rfl⟩
  ·have hcv := K.vl c (mAt hcj)
   have hck:=rH hpos h.rel h.cl (mAt hcj)
   have w_:=(uI hck).1 k.ok
   obtain⟨ho1,ho2⟩:=w_
   have hpe:bQ (vs++ws) c=bQ vs c:=qN hvn hcv
   rw[hpe]at ho2
   refine .inl ⟨dZ x.r j c vs,(gQ hU).2 ⟨x.r,x.cls,j,c,vs,mAt h.rel,h.cl,hcj,by omega,hvu,(uI hck).2 ⟨fun g hg=>(pI hvn (hcv g hg)).1 (ho1 g hg),ho2⟩,rfl⟩,?_,?_⟩
   ·rw [k.eq]
    exact(qFm ha0 hvl _ _ _ _).symm
   ·rw [k.eq]
    exact hpe.symm
  ·rw [h3] at k
   have hcv:=K.vl x.l (mAt h.cls)
   have hdv:=K.vd d (mAt hd)
   have hlk:=rH hpos h.rel h.cl (mAt h.cls)
   have w_:=h.called
   obtain⟨jq,_,hjq⟩:=w_
   have hdk:=rH hpos hjq h2.1 (mAt hd)
   have w_:=(uI (qDd h h2 hpos (mAt hd))).1 k.ok
   obtain⟨ho1,ho2⟩:=w_
   have w_:=(qIu hvn hwm h.goal K.g9 hcv hdv K.low).1 ho1
   obtain⟨hl1,hd1,hwa⟩:=w_
   have hpu:=qGb (a:=x.a) (g:=x.g) hvn hwm hcv hdv
   have hpa:=qGa (vs:=vs) h.goal K.g9
   rw[hpu]at ho2
   have hqo:=hp.2 _ _ hjq
   have hq0:=hqo.ar0
   have hq1:=hqo.lo0
   have hlen:=K.len
   have hqh:(dZ x.q j d ws).head=cJ vs x.g:=by
    have w_:=gA (p:=p) (s:=x.g.name) (by have w_:=h.called;obtain⟨j',e,_⟩:=w_;omega)
    obtain⟨k',q',g1,g2,g3⟩:=w_
    have w_:=h.called
    obtain⟨j',e1,e2⟩:=w_
    obtain rfl:k'=j':=by omega
    rw[e2]at g2
    cases g2
    refine F.eq_of ?_ ?_
    ·show x.q.name = x.g.name
     exact g3
    ·show ws.take x.q.arity.toNat = _
     rw[hwa]
     congr 1;omega
   refine .inr ⟨dZ x.r x.c x.l vs,(gQ hU).2 ⟨x.r,x.cls,x.c,x.l,vs,mAt h.rel,h.cl,h.cls,by omega,hvu,(uI hlk).2 ⟨hl1,fun f hf=>?_⟩,rfl⟩,dZ x.q j d ws,(gQ hU).2 ⟨x.q,ds,j,d,ws,mAt hjq,h2.1,hd,by omega,hwu,(uI hdk).2 ⟨hd1,fun f hf=>ho2 f (List.mem_append_left _ (List.mem_append_right _ hf))⟩,rfl⟩,bQ vs (x.l.take x.a),bQ vs (x.l.drop (x.a+1)),?_,?_,?_⟩
   ·rw [hpa] at hf
    rcases List.mem_append.1 hf with hf|hf
    ·exact ho2 f (List.mem_append_left _ (List.mem_append_left _ hf))
    ·rcases List.mem_cons.1 hf with rfl | hf
     ·rw [hwa]
      exact fun a ha=>hwu a (List.mem_of_mem_take ha)
     ·exact ho2 f (List.mem_append_right _ hf)
   ·rw[hqh];exact hpa
   ·rw [k.eq]
    exact(qFm ha0 hvl _ _ _ _).symm
   ·rw[k.eq];exact hpu
 ·rw [UnfD.rels_other hkx] at hkk
  exact .inl ⟨r',(gQ hU).2 ⟨rl,L,i,c,vv,mAt hkk,k.cl,k.at_,k.len,k.uni,k.ok,k.eq⟩,rfl,rfl⟩
end
end Go.Vx
namespace Go.Vx
open Go.Proofs Classical
def nxC(h:Int):Int:=IntKind.i64.wrap (IntKind.i64.wrap (h*6364136223846793005)+1442695040888963407)
def byC(x:Int):Int:=bits .and .i64 (bits .xor .i64 (x.fdiv (2 ^ min (Int.toNat 33) IntKind.i64.bits)) (x.fdiv (2 ^ min (Int.toNat 45) IntKind.i64.bits))) 255
def bzC(x b:Int):Int:=bits .and .i64 (IntKind.i64.wrap (byC x+IntKind.i64.wrap b)) 255
def stC(n:Nat)(s:Nat×Int):Nat×Int:=(if s.1<n then s.1+1 else s.1,nxC s.2)
def vlC(bt:Nat→Int)(n:Nat)(s:Nat×Int):Int:=if s.1<n then bzC (nxC s.2) (bt s.1)else byC (nxC s.2)
def sdC(bt:Nat→Int)(n:Nat):Nat→Int
 |0=>IntKind.i64.wrap (90411+n)
 |i+1=>bits .and .i64 (IntKind.i64.wrap (IntKind.i64.wrap (IntKind.i64.wrap (sdC bt n i*131)+IntKind.i64.wrap (bt i))+7)) 1073741823
def itC(n:Nat):Nat→Nat×Int→Nat×Int
 |0,s=>s
 |k+1,s=>stC n (itC n k s)
structure BytesE (μ:Mem) (base:Option Addr) (n:Nat) (bt:Nat→Int):Prop where
 max:n≤maxLen
 get:∀i:Nat,i<n→∃a:Addr,ElemAt μ base n 1 (i:Int) a [.int .u8 (bt i)]
theorem BytesE.mono{μ μ':Mem}{base:Option Addr}{n:Nat}{bt:Nat→Int}(h:BytesE μ base n bt)(hle:μ.Le μ'):BytesE μ' base n bt:=
 ⟨h.max, fun i hi => by
  have w_:=h.get i hi
  obtain⟨a,e⟩:=w_
  exact⟨a,e.mono hle⟩⟩
theorem Bytes.exact{μ:Mem}{base:Option Addr}{n:Nat}(h:Bytes μ base n):∃bt,BytesE μ base n bt:=by
 refine⟨fun i=>if hi:i<n then(h.get i hi).choose_spec.choose else 0,h.max,fun i hi=>⟨(h.get i hi).choose,?_⟩⟩
 rw[dif_pos hi]
 exact(h.get i hi).choose_spec.choose_spec
theorem vlC_nat(bt:Nat→Int)(n:Nat)(s:Nat×Int):∃k:Nat,vlC bt n s=(k:Int)∧k<256:=by
 rw[vlC]
 split
 ·exact xK _
 ·exact xK _
section
variable {μ:Mem}
def cuC(base:Option Addr)(n cap:Nat)(s:Nat×Int):Obj:=sV base n cap s.1 s.2
theorem qDn{h:Mem}{r:Nat}{base:Option Addr}{n cap:Nat}{bt:Nat→Int}{s:Nat×Int}(hb:BytesE μ base n bt)(hr:h r=some (cuC base n cap s))(hi:s.1≤n):
  SpecH Tryz.prog 75 [.pointer (some ⟨r,0,none⟩)] μ h fun v μ' h'=>μ'=μ∧h'=h.set r (cuC base n cap (stC n s))∧v= .int .i64 (vlC bt n s):=by
 obtain⟨i,hh⟩:=s
 have hr:h r=some (sV base n cap i hh):=hr
 have hi:i≤n:=hi
 refine SpecH.mk [] Tryz.func75 (by kernel_rfl) ?_
 refine oIn [.int .i64 hh] rfl (eZ hr rfl) ?_
 refine aO fun x1 e1=>?_
 refine aO fun x2 e2=>?_
 refine sIn [.slice base n cap,.int .i64 i,.int .i64 hh] 168 hr rfl (by show 2+1≤3;decide) ?_
 have h1:(h.set r (sV base n cap i x2)) r=some (sV base n cap i x2):=Mem.set_at _ _ _
 refine oIn [.int .i64 x2] rfl (eZ h1 rfl) ?_
 refine aC (by decide) ?_
 refine aO fun x3 e3=>?_
 refine oIn [.int .i64 x2] rfl (eZ h1 rfl) ?_
 refine aC (by decide) ?_
 refine aO fun x4 e4=>?_
 refine aO fun x5 e5=>?_
 have hx2:x2=nxC hh:=by rw[e2,e1];rfl
 refine aO fun x50 e50=>?_
 have hx5:x50=byC x2:=by rw[e50,e5,e4,e3];rfl
 refine oIn [.int .i64 (i:Int)] rfl (eZ h1 rfl) ?_
 refine oIn [.slice base n cap] rfl (eZ h1 rfl) ?_
 refine ifd (fun hlt=>?_) (fun hlt=>?_)
 ·have w_ := hb.get i (by omega)
  obtain⟨a,hel⟩:=w_
  refine oIn [.slice base n cap] rfl (eZ h1 rfl) ?_
  refine oIn [.int .i64 (i:Int)] rfl (eZ h1 rfl) ?_
  refine eIn hel ?_
  refine aO fun x6 e6=>?_
  refine aO fun x7 e7=>?_
  refine aO fun x8 e8=>?_
  have hx8:x8=bzC x2 (bt i):=by rw[e8,e7,e6,hx5];rfl
  refine oIn [.int .i64 (i:Int)] rfl (eZ h1 rfl) ?_
  have:=aH hb.max
  refine aB (by omega) (by omega) ?_
  refine sIn [.slice base n cap,.int .i64 i,.int .i64 x2] 168 h1 rfl (by show 1+1≤3;decide) ?_
  refine rPl ⟨rfl,?_,?_⟩
  ·show (h.set r (sV base n cap i x2)).set r (sV base n cap ((i + 1 : Nat) : Int) x2) = _
   rw[Mem.set_set,stC,if_pos (show i<n by omega),hx2]
   rfl
  ·rw[vlC,if_pos (show i<n by omega),hx8,hx2]
 ·refine rPl ⟨rfl, ?_, ?_⟩
  ·show h.set r (sV base n cap i x2) = _
   rw[stC,if_neg (show ¬i<n by omega),hx2]
   rfl
  ·rw[vlC,if_neg (show ¬i<n by omega),hx5,hx2]
theorem stC_le{n:Nat}{s:Nat×Int}(h:s.1≤n):(stC n s).1≤n:=by
 rw[stC]
 show(if s.1<n then s.1+1 else s.1)≤n
 split<;>omega
theorem qRi{n:Nat}{s:Nat×Int}(h:s.1≤n):∀k,(itC n k s).1≤n
 |0=>h
 |k+1=>stC_le (qRi h k)
theorem qNv{h:Mem}{base:Option Addr}{n cap:Nat}{bt:Nat→Int}(hb:BytesE μ base n bt):
  SpecH Tryz.prog 121 [.slice base n cap] μ h fun v μ' h'=>μ'=μ∧∃r,v= .pointer (some ⟨r,0,none⟩)∧h r=none∧h'=h.set r (cuC base n cap (0,sdC bt n (min n 4000))):=by
 have hmax:=aH hb.max
 refine SpecH.mk [31] Tryz.func121 (by kernel_rfl) ?_
 refine aO fun x0 e0=>?_
 refine lIn (fun p:Nat×Int=>p.1≤n∧p.1≤4000∧p.2=sdC bt n p.1) (fun(i,x)=>⟨[(0,.val (.slice base n cap)),(3,.val (.int .i64 x)),(4,.val (.int .i64 i))],[],0,μ,h⟩) (fun p=>n-p.1)
  (0,x0) ⟨Nat.zero_le _,Nat.zero_le _,e0⟩ (fun(_,_)=>⟨rfl,rfl⟩) ⟨⟨rfl,rfl,rfl,trivial⟩,trivial,rfl,rfl⟩ ?_
 rintro⟨i,x⟩ ⟨hi,hi2,hx⟩
 dsimp only at hi hi2 hx
 refine ifd (fun hlt=>?_) (fun hlt=>?_)
 ·refine ifd (fun hlt2 => ?_) (fun hlt2 => ?_)
  ·have w_ := hb.get i (by omega)
   obtain⟨a,hel⟩:=w_
   refine aO fun x1 e1=>?_
   refine eIn hel ?_
   refine aO fun x2 e2=>?_
   refine aO fun x3 e3=>?_
   refine aO fun x4 e4=>?_
   refine aO fun x5 e5=>?_
   refine aB (by omega) (by omega) ⟨(i+1,x5),⟨by dsimp only;omega,by dsimp only;omega,by dsimp only;rw[e5,e4,e3,e2,e1,hx];rfl⟩,by dsimp only;omega,⟨⟨rfl,rfl,rfl,trivial⟩,trivial,rfl,rfl⟩⟩
  ·intro r hm ho
   have e:min n 4000=i:=by omega
   exact rPl ⟨rfl,r,rfl,ho,by rw[e,←hx];rfl⟩
 ·intro r hm ho
  have e:min n 4000=i:=by omega
  exact rPl ⟨rfl,r,rfl,ho,by rw[e,←hx];rfl⟩
theorem qNw{h:Mem}{base:Option Addr}{n cap:Nat}{bt:Nat→Int}(hb:BytesE μ base n bt)(m:Nat)(hm:m≤1000000):
  SpecH Tryz.prog 48 [.slice base n cap,.int .i64 m] μ h fun v μ' h'=>μ'=μ∧∃r,v= .pointer (some ⟨r,0,none⟩)∧h r=none∧h'=h.set r (cuC base n cap (itC n m (0,sdC bt n (min n 4000)))):=by
 refine SpecH.mk [] Tryz.func48 (by kernel_rfl) ?_
 refine cOw (qNv hb) fun v μ1 h1 hle1 hap1 hR=>?_
 obtain⟨e,r,rfl,ho,rfl⟩:=hR
 obtain rfl:=e.symm
 refine lIn (fun i:Nat=>i≤m) (fun i=>⟨[(1,.val (.int .i64 m)),(5,.val (.pointer (some ⟨r,0,none⟩))),(6,.val (.int .i64 i))],[],0,μ,h.set r (cuC base n cap (itC n i (0,sdC bt n (min n 4000))))⟩) (fun i=>m-i)
  0 (Nat.zero_le _) (fun _=>⟨rfl,rfl⟩) ⟨⟨rfl,rfl,rfl,trivial⟩,trivial,rfl,rfl⟩ ?_
 clear hap1
 intro i hi
 refine ifd (fun hlt=>?_) (fun hlt=>?_)
 ·refine cOw (qDn hb (Mem.set_at _ _ _) (qRi (Nat.zero_le _) i)) fun v μ2 h3 hle2 hap2 hR => ?_
  obtain⟨e,rfl,rfl⟩:=hR
  obtain rfl:=e.symm
  refine aB (by omega) (by omega) ⟨i+1,by omega,by omega,⟨⟨rfl,rfl,rfl,trivial⟩,trivial,rfl,?_⟩⟩
  show(h.set r _).set r _=_
  rw[Mem.set_set];rfl
 ·obtain rfl : i = m := by omega
  exact rPl ⟨rfl,r,rfl,ho,rfl⟩
theorem qNh{base:Option Addr}{n cap:Nat}(hb:Bytes μ base n)(m:Nat)(lo hi:Int)(hm:m≤1000000)(h0:0≤lo)(h1:lo≤hi)(h2:hi≤1000):
  ∃k:Int,(lo≤k∧k≤hi)∧∀μ',μ.Le μ'→Spec Tryz.prog 35 [.slice base n cap,.int .i64 m,.int .i64 lo,.int .i64 hi] μ' fun v μ''=>μ''=μ'∧v= .int .i64 k:=by
 have w_:=hb.exact
 obtain⟨bt,hbe⟩:=w_
 have w_:=vlC_nat bt n (itC n m (0,sdC bt n (min n 4000)))
 obtain⟨b,hbv,hb256⟩:=w_
 have hlt:=Nat.mod_lt b (show 0<(hi-lo+1).toNat by omega)
 refine⟨lo+((b % (hi-lo+1).toNat:Nat):Int),⟨by omega,by omega⟩,fun μ' hle=>?_⟩
 have hbe:=hbe.mono hle
 have below:∀{h:Mem} {r:Nat},h r=some (cuC base n cap (itC n m (0,sdC bt n (min n 4000))))→SpecH Tryz.prog 87 [.pointer (some ⟨r,0,none⟩),.int .i64 (hi-lo+1)] μ' h fun v μ'' _=>μ''=μ'∧v= .int .i64 ((b % (hi-lo+1).toNat:Nat):Int):=fun {h r} hr=>by
  refine SpecH.mk [] Tryz.func87 (by kernel_rfl) ?_
  refine ifd (fun hn=>absurd hn (by omega)) (fun hn=>?_)
  refine cOw (qDn hbe hr (qRi (Nat.zero_le _) m)) fun v μ1 h1 hle1 hap1 hR=>?_
  obtain⟨e,rfl,rfl⟩:=hR
  obtain rfl:=e.symm
  rw[hbv]
  refine aC (by omega) ?_
  have e1:(b:Int).tmod (hi-lo+1)=((b % (hi-lo+1).toNat:Nat):Int):=by
   have hn2:hi-lo+1=(((hi-lo+1).toNat:Nat):Int):=by omega
   conv=>lhs;rw[hn2]
   rw[Int.ofNat_tmod]
  refine nEq e1 ?_
  exact rPl ⟨rfl,rfl⟩
 refine Spec.mk Tryz.func35 (by kernel_rfl) ?_
 refine cOw (qNw hbe m hm) fun v μ1 h1 hle1 hap1 hR=>?_
 obtain⟨e,r,rfl,ho,rfl⟩:=hR
 obtain rfl:=e.symm
 refine aB (by omega) (by omega) (aB (by omega) (by omega) ?_)
 refine cOw (below (Mem.set_at _ _ _)) fun v μ1 h2 hle2 hap2 hR=>?_
 obtain⟨e,rfl⟩:=hR
 obtain rfl:=e.symm
 refine aB (by omega) (by omega) ?_
 exact rPl ⟨rfl,rfl⟩
end
end Go.Vx
namespace Go.Vx
open Go.Proofs Classical
theorem mem_stF{rs:List Ru}{n:Nat}{f:F}:f∈stF rs (n+1)↔∃r∈rs,(∀g∈r.pos,g∈stF rs n)∧r.head=f:=by
 show f∈fY rs (stF rs n) []↔_
 rw[qCy]
 constructor
 ·rintro ⟨r, h1, h2, h3⟩
  exact⟨r,h1,h2.1,h3⟩
 ·rintro ⟨r, h1, h2, h3⟩
  exact⟨r,h1,⟨h2,fun _ _=>List.not_mem_nil⟩,h3⟩
theorem qHg{rs:List Ru}:∀n,∀f∈stF rs n,f∈stF rs (n+1)
 |0,_,h=>nomatch h
 |n+1,f,h=>by
  have w_:=mem_stF.1 h
  obtain⟨r,h1,h2,h3⟩:=w_
  exact mem_stF.2 ⟨r,h1,fun g hg=>qHg n g (h2 g hg),h3⟩
theorem qVw{rs:List Ru}{n m:Nat}(h:n≤m):∀f∈stF rs n,f∈stF rs m:=by
 obtain⟨d,rfl⟩:=Nat.exists_eq_add_of_le h
 clear h
 induction d with
 |zero=>exact fun f h=>h
 |succ d ih=>exact fun f h=>qHg _ f (ih f h)
theorem qVa{rs:List Ru}{f:F}(h:Der rs [] f):∃n,f∈stF rs n:=by
 induction h with
 |base h=>exact nomatch h
 | @rule r hr _ ih=>
  have all:∀l:List F,(∀g∈l,∃n,g∈stF rs n)→∃n,∀g∈l,g∈stF rs n:=fun l=>by
   induction l with
   |nil=>exact fun _=>⟨0,fun _ h=>nomatch h⟩
   |cons a l ihl=>
    intro hl
    obtain⟨n1,h1⟩:=hl a (by simp)
    obtain⟨n2,h2⟩:=ihl fun g hg=>hl g (by simp[hg])
    refine⟨n1+n2,fun g hg=>?_⟩
    rcases List.mem_cons.1 hg with rfl|hg
    ·exact qVw (by omega) _ h1
    ·exact qVw (by omega) _ (h2 g hg)
  obtain⟨n,hn⟩:=all r.pos ih
  exact⟨n+1,mem_stF.2 ⟨r,hr,hn,rfl⟩⟩
theorem qOk{rs:List Ru}:∀(n:Nat) {f:F},f∈stF rs n→Der rs [] f
 |0,_,h=>nomatch h
 |n+1,f,h=>by
  have w_:=mem_stF.1 h
  obtain⟨r,h1,h2,rfl⟩:=w_
  exact .rule h1 fun g hg=>qOk n (h2 g hg)
theorem LastSt.const{rs:List Ru}{n:Nat}(h:LastSt rs n):∀d,stF rs (n+d)=stF rs n
 |0=>rfl
 |d+1=>by
  have ih:=h.const d
  show fY rs (stF rs (n+d)) []=_
  rw[ih];exact h.1
section
variable {p:Pg} {nm:ByteArray} {cl ca:Int} {x:UnfD} {ds:List (List Gl)} {U:List T}
theorem qSe(hpos:p.Pos)(h:UnfAt p nm cl ca x)(h2:jX p x ds)(hU:0<U.length):∀(n m:Nat),m≤n→∀f∈stF (cC p U) m,f∈stF (cC (x.pg p ds) U) m
 |_,0,_,_,hf=>nomatch hf
 |0,m+1,hm,_,_=>absurd hm (by omega)
 |n+1,m+1,hm,f,hf=>by
  have ih:=qSe hpos h h2 hU n
  have w_:=mem_stF.1 hf
  obtain⟨r,h1,h3,rfl⟩:=w_
  rcases qVs hpos h h2 hU h1 with⟨r',k1,k2,k3⟩|⟨A,g,B,e,k⟩
  ·exact mem_stF.2 ⟨r',k1,fun g hg=>ih m (by omega) g (h3 g (by rw[←k3];exact hg)),k2⟩
  ·have hg := h3 g (by rw [e]; simp)
   cases m with
   |zero=>exact nomatch hg
   |succ m=>
    have w_:=mem_stF.1 hg
    obtain⟨r2,j1,j2,j3⟩:=w_
    obtain⟨r',k1,k2,k3⟩:=k r2 j1 j3
    refine mem_stF.2 ⟨r',k1,fun y hy=>?_,k2⟩
    rw[k3]at hy
    rcases List.mem_append.1 hy with hy|hy
    ·rcases List.mem_append.1 hy with hy | hy
     ·exact ih _ (by omega) y (h3 y (by rw[e];simp[hy]))
     ·exact qHg _ y (ih m (by omega) y (j2 y hy))
    ·exact ih _ (by omega) y (h3 y (by rw[e];simp[hy]))
theorem qSd(hpos:p.Pos)(h:UnfAt p nm cl ca x)(h2:jX p x ds)(hU:0<U.length):∀(n:Nat),∀f∈stF (cC (x.pg p ds) U) n,f∈stF (cC p U) (2*n)
 |0,_,hf=>nomatch hf
 |n+1,f,hf=>by
  have ih:=qSd hpos h h2 hU n
  have w_:=mem_stF.1 hf
  obtain⟨r',h1,h3,rfl⟩:=w_
  show r'.head∈stF (cC p U) (2*n+1+1)
  rcases qVr hpos h h2 hU h1 with⟨r,k1,k2,k3⟩|⟨r,k1,r2,k2,A,B,e,k3,k4⟩
  ·exact mem_stF.2 ⟨r,k1,fun g hg=>qHg _ g (ih g (h3 g (by rw[←k3];exact hg))),k2⟩
  ·refine mem_stF.2 ⟨r, k1, fun g hg => ?_, k3⟩
   rw[e]at hg
   rcases List.mem_append.1 hg with hg|hg
   ·exact qHg _ g (ih g (h3 g (by rw[k4];simp[hg])))
   ·rcases List.mem_cons.1 hg with rfl | hg
    ·exact mem_stF.2 ⟨r2,k2,fun y hy=>ih y (h3 y (by rw[k4];simp[hy])),rfl⟩
    ·exact qHg _ g (ih g (h3 g (by rw[k4];simp[hg])))
theorem lfp_unf(hpos:p.Pos)(h:UnfAt p nm cl ca x)(h2:jX p x ds)(hU:0<U.length):lfp (cC p U) []=lfp (cC (x.pg p ds) U) []:=
 Asc3.uniq (c:=dC) cmpF_ord (qCw ..) (qCw ..) fun f=>by
  rw[mem_lfp,mem_lfp]
  constructor
  ·intro k
   obtain⟨n,hn⟩:=qVa k
   exact qOk n (qSe hpos h h2 hU n n (Nat.le_refl _) f hn)
  ·intro k
   obtain⟨n,hn⟩:=qVa k
   exact qOk _ (qSd hpos h h2 hU n f hn)
end
section
variable {μ:Mem}
theorem qIp{p:Pg}{u:List Tm}{v:Value}{ub:Option Addr}{uc:Nat}(hp:RepV μ p.d v)(hu:Sl μ 4 ub u.length (u.map Tm.d)){n:Nat}(hn:n≤100):
  Spec Tryz.prog 38 [v,.slice ub u.length uc,.int .i64 n] μ fun v μ'=>optFs (fun y tv=>Fresh μ μ' (fsD y) tv) ((bH p u).map fun rs=>stF rs n) v:=by
 have hp0:=hp
 have w_:=Pg.inv hp
 obtain⟨q,rfl,hrl⟩:=w_
 refine Spec.mk Tryz.func38 (by kernel_rfl) ?_
 intro r3
 refine cPl (lT hp0 hu) fun v1 μ1 hle1 hR=>?_
 cases hP:bH p u with
 |none=>
  rw[hP]at hR
  obtain rfl:=hR
  refine iIn (fun _=>?_) (fun h=>nomatch h)
  exact rPl rfl
 |some rs=>
 rw[hP]at hR
 obtain⟨tv,rfl,hR⟩:=hR
 have hR:RsV μ1 rs tv:=hR
 have w_:=RsV.sl hR
 obtain⟨b1,c1,rfl,hrs⟩:=w_
 have hpg:p.Pos∧bX p u=some rs:=by
  rw[bH]at hP
  split at hP
  ·rename_i k;exact⟨k,hP⟩
  ·cases hP
 refine iIn (fun h=>nomatch h) (fun _=>?_)
 refine ifd (fun h=>absurd h (by omega)) (fun _=>?_)
 refine ifd (fun h=>absurd h (by omega)) (fun _=>?_)
 refine cPl (qIh hrs (fQ hpg.2).1 (qTf hpg.1 hpg.2)) fun v2 μ2 hle2 hR2=>?_
 obtain⟨k,hlast,hR2⟩:=hR2
 have w_:=xH hR2
 obtain⟨b2,c2,rfl,hs2⟩:=w_
 have hsl:=nT hlast.2
 have hrl:=(fL rs k).len
 have hrn:=(fQ hpg.2).1
 refine aB (by omega) (by omega) ?_
 have hmin:∃m:Nat,m≤k∧stF rs n=stF rs m∧(if(((k+1:Nat):Int)-1)<(n:Int)then(((k+1:Nat):Int)-1)else(n:Int))=(m:Int):=by
  by_cases hnk:n≤k
  ·exact⟨n,hnk,rfl,by rw[if_neg (by omega)]⟩
  ·refine ⟨k, Nat.le_refl _, ?_, by rw [if_pos (by omega)]; omega⟩
   have:=hlast.const (n-k)
   rwa [show k+(n-k)=n by omega]at this
 obtain⟨m,hmk,hst,hmi⟩:=hmin
 have w_:=sG hs2 hmk
 obtain⟨ad,q2,hel,hfs⟩:=w_
 rw[←hmi]at hel
 refine eIn hel ?_
 have hsm:=(fL rs m).len
 have hok:FsOk p (stF rs m):=fun f hf=>qGy (fQ hpg.2).2 (base:=[]) (fun _ h=>nomatch h) f (mem_lfp.2 (qOk m hf))
 have hpo:=(kI hpg.2).1
 refine cPl (qS hfs (by omega) fun f hf=>Nat.le_trans (hok.len hpo f hf) (by decide)) fun v3 μ3 hle3 hR3=>?_
 refine rPl ?_
 rw[Option.map_some,hst]
 exact⟨_,rfl,Fresh.mono hR3 (hle1.trans hle2) (Mem.Le.refl _)⟩
set_option maxHeartbeats 4000000 in
theorem qLj{base:Option Addr}{n cap:Nat}(hb:Bytes μ base n):
  Spec Tryz.prog 8 [.slice base n cap] μ fun r _=>r= .bool true:=by
 refine Spec.mk Tryz.func8 (by kernel_rfl) ?_
 refine ifd (fun h=>rPl rfl) (fun h=>?_)
 refine cPl (kV hb 0 (by decide) 1 (.inl rfl)) fun v1 μ1 hle1 hR=>?_
 obtain⟨p,hp,hrp⟩:=hR
 have w_:=Pg.inv hrp
 obtain⟨q,rfl,hrl⟩:=w_
 intro r3
 refine cPl (kD (hb.mono hle1) 60 (by decide) 2 (by decide) (by decide)) fun v2 μ2 hle2 hR=>?_
 obtain⟨U,hU,hrU⟩:=hR
 have w_:=Rep.sl hrU
 obtain⟨ub,uc,rfl,hus⟩:=w_
 rw[List.length_map,List.length_map]at hus ⊢
 have hus0:Sl μ2 4 ub (U.map T.tm).length ((U.map T.tm).map Tm.d):=by rw[List.length_map];exact hus
 have huo:=hU.ok (by decide)
 have hgr:cI p U=some (cC p U):=qAg hp.small2 hU.max
 have hgo:bX p (U.map T.tm)=some (cC p U):=by rw[bX,if_pos ⟨hp.ok,huo⟩,gO];exact hgr
 have hU1:0<U.length:=hU.pos
 have hrp2:=hrp.mono hle2
 have hpos:=hp.pos (by decide)
 have hpr:bH p (U.map T.tm)=some (cC p U):=by rw[bH,if_pos hpos,hgo]
 have hb2:=(hb.mono hle1).mono hle2
 refine cPl (oO hb2 80 0 9 (by decide) (by decide) (by decide) (by decide)) fun v5 μ5 hle5 hR5=>?_
 obtain⟨e,k,rfl,hk0,hk9⟩:=hR5
 obtain rfl:=e.symm
 have hne:0<p.rels.length:=List.length_pos_iff.2 hp.ne
 have hp8:=hp.ok.1
 refine aC (by omega) ?_
 have hkn:k=((k.toNat:Nat):Int):=by omega
 have e1:k.tmod (p.rels.length:Int)=((k.toNat % p.rels.length:Nat):Int):=by
  conv=>lhs;rw[hkn]
  rw[Int.ofNat_tmod]
 refine nEq e1 ?_
 have w_:=aSo (l:=p.rels) (i:=k.toNat % p.rels.length) (Nat.mod_lt _ hne)
 obtain⟨rl,hrl2⟩:=w_
 have w_:=Rl.elem (hrl.mono hle2) hrl2
 obtain⟨ad,q2,hel,_⟩:=w_
 refine eIn hel ?_
 have w_:=qNh (cap:=cap) hb2 81 0 2 (by decide) (by decide) (by decide) (by decide)
 obtain⟨cl,⟨hcl0,hcl2⟩,hms⟩:=w_
 refine cPl (hms _ (Mem.Le.refl _)) fun v6 μ6 hle6 hR6=>?_
 obtain⟨e,rfl⟩:=hR6
 obtain rfl:=e.symm
 have hle12:=hle2
 refine cPl (nA (nm:=rl.name) (clause:=cl) (call:=0) hrp2 ⟨by decide,by decide⟩) fun v7 μ7 hle7 hR7=>?_
 have hform:∃(Q:Pg) (qb:Option Addr) (qn qc:Nat) (ok:Bool),v7= .tuple #[.agg #[.slice qb qn qc],.bool ok]∧RepV μ7 Q.d (.agg #[.slice qb qn qc])∧(ok=true→∃z,UnfZ p rl.name cl 0 z∧Q=z.1.pg p z.2)∧ok=((rR p rl.name cl 0).map Prod.fst).isSome:=by
  rcases qAm p rl.name cl 0 with⟨hn1,hn2⟩|⟨z,hz,hzs⟩
  ·rw [hn1] at hR7 ⊢
   exact⟨⟨[]⟩,none,0,0,false,hR7,by rw[Pg.d_eq];exact⟨_,rfl,RepS.last (Rep.nilSl 7)⟩,(fun h=>nomatch h),rfl⟩
  ·rw [hzs] at hR7 ⊢
   obtain⟨tv7,rfl,hR7⟩:=hR7
   have hrq:=hR7.rep
   have w_:=Pg.invV hrq
   obtain⟨qq,rfl⟩:=w_
   exact⟨_,_,_,_,true,rfl,hrq,fun _=>⟨z,hz,rfl⟩,rfl⟩
 obtain⟨Q,qb,qn,qc,ok,rfl,hrq,hQ,hoe⟩:=hform
 intro r6
 refine cPl (hms _ hle7) fun v8 μ8 hle8 hR8=>?_
 obtain⟨e,rfl⟩:=hR8
 obtain rfl:=e.symm
 refine cPl (kO (nm:=rl.name) (clause:=cl) (call:=0) (hrp2.mono hle7) hp.ok.wd ⟨by omega,by omega⟩) fun v9 μ9 hle9 hR9=>?_
 have hform9:∃(sb:Option Addr) (sn sc:Nat),v9= .tuple #[.agg #[.slice sb sn sc],.bool ok]:=by
  rw[hoe]
  cases hu:(rR p rl.name cl 0).map Prod.fst with
  |none=>rw[hu]at hR9;exact⟨none,0,0,hR9⟩
  |some y=>
   rw[hu]at hR9
   obtain⟨tv9,rfl,hR9⟩:=hR9
   have w_:=Pg.invV hR9
   obtain⟨q9,rfl⟩:=w_
   exact⟨_,_,_,rfl⟩
 obtain⟨sb,sn,sc,rfl⟩:=hform9
 intro r8
 refine iIn (fun h=>?_) (fun _=>?_)
 ·cases ok<;>cases h
 have hle29:=hle7.trans hle9
 refine cPl (oO (hb2.mono hle29) 82 0 3 (by decide) (by decide) (by decide) (by decide)) fun v10 μ10 hle10 hR10=>?_
 obtain⟨e,sz,rfl,hs0,hs3⟩:=hR10
 obtain rfl:=e.symm
 have w_:=Int.eq_ofNat_of_zero_le hs0
 obtain⟨s,rfl⟩:=w_
 have stg:∀{μ:Mem} {P:Pg} {v:Value},RepV μ P.d v→Sl μ 4 ub (U.map T.tm).length ((U.map T.tm).map Tm.d)→∀k:Nat,k≤100→Spec Tryz.prog 38 [v,.slice ub U.length uc,.int .i64 k] μ fun v μ'=>∃(L:List F) (b:Option Addr) (c:Nat) (bb:Bool),v= .tuple #[.slice b L.length c,.bool bb]∧FsV μ' L (.slice b L.length c)∧bb=(bH P (U.map T.tm)).isSome∧∀rs,bH P (U.map T.tm)=some rs→L=stF rs k:=fun {μ P v} h1 h2 k hk=>by
  have hsp:=qIp (uc:=uc) h1 h2 hk
  rw[List.length_map]at hsp
  refine hsp.weaken fun v μ' _ hR=>?_
  cases hP:bH P (U.map T.tm)with
  |none=>rw[hP]at hR;exact⟨[],none,0,false,hR,FsV.nil none 0,rfl,fun _ h=>nomatch h⟩
  |some rs=>
   rw[hP]at hR
   obtain⟨tv,rfl,hR⟩:=hR
   have w_:=FsV.sl (L:=stF rs k) hR.rep
   obtain⟨b,c,rfl,-,-⟩:=w_
   exact⟨_,b,c,true,rfl,hR.rep,rfl,fun _ h=>by cases h;rfl⟩
 have lst:∀{μ:Mem} {P:Pg} {v:Value},RepV μ P.d v→Sl μ 4 ub (U.map T.tm).length ((U.map T.tm).map Tm.d)→Spec Tryz.prog 15 [v,.slice ub U.length uc] μ fun v μ'=>∃(L:List F) (b:Option Addr) (c:Nat) (k:Int) (bb:Bool),v= .tuple #[.slice b L.length c,.int .i64 k,.bool bb]∧FsV μ' L (.slice b L.length c)∧bb=(bH P (U.map T.tm)).isSome∧∀rs,bH P (U.map T.tm)=some rs→L=lfp rs []:=fun {μ P v} h1 h2=>by
  have hsp:=qBm (uc:=uc) h1 h2
  rw[List.length_map]at hsp
  refine hsp.weaken fun v μ' _ hR=>?_
  cases hP:bH P (U.map T.tm)with
  |none=>rw[gY,hP]at hR;exact⟨[],none,0,0,false,hR,FsV.nil none 0,rfl,fun _ h=>nomatch h⟩
  |some rs=>
   rw[gY,hP]at hR
   obtain⟨tv,k,rfl,hR⟩:=hR
   have w_:=FsV.sl (L:=lfp rs []) hR.rep
   obtain⟨b,c,rfl,-,-⟩:=w_
   exact⟨_,b,c,k,true,rfl,hR.rep,rfl,fun _ h=>by cases h;rfl⟩
 refine cPl (stg (hrp2.mono hle29) (hus0.mono hle29) s (by omega)) fun v11 μ11 hle11 hR11=>?_
 obtain⟨LA,ba,ca,bba,rfl,hfa,hba,hLA⟩:=hR11
 have w_:=FsV.sl hfa
 obtain⟨_,_,ea,-,hsa⟩:=w_
 have w_:=Value.slice.inj ea
 obtain⟨rfl,_,rfl⟩:=w_
 have hle2b:=hle29.trans hle11
 have hle7b:=hle9.trans hle11
 refine cPl (stg (hrq.mono hle7b) (hus0.mono hle2b) s (by omega)) fun v12 μ12 hle12 hR12=>?_
 obtain⟨LB,bb,cb,bbb,rfl,hfb,hbb,hLB⟩:=hR12
 have w_:=FsV.sl hfb
 obtain⟨_,_,eb,-,hsb⟩:=w_
 have w_:=Value.slice.inj eb
 obtain⟨rfl,_,rfl⟩:=w_
 have hle2c:=hle2b.trans hle12
 refine aB (by omega) (by omega) ?_
 have hstc:=stg (hrp2.mono hle2c) (hus0.mono hle2c) (2*s) (by omega)
 rw[show((2*s:Nat):Int)=2*(s:Int) by omega]at hstc
 refine cPl hstc fun v13 μ13 hle13 hR13=>?_
 obtain⟨LC,bc,cc,bbc,rfl,hfc,hbc,hLC⟩:=hR13
 have w_:=FsV.sl hfc
 obtain⟨_,_,ec,-,hsc⟩:=w_
 have w_:=Value.slice.inj ec
 obtain⟨rfl,_,rfl⟩:=w_
 have hle2d:=hle2c.trans hle13
 refine cPl (lst (hrp2.mono hle2d) (hus0.mono hle2d)) fun v14 μ14 hle14 hR14=>?_
 obtain⟨LL,bl,cl2,kl,bbl,rfl,hfl,hbl,hLL⟩:=hR14
 have w_:=FsV.sl hfl
 obtain⟨_,_,el,-,hsl⟩:=w_
 have w_:=Value.slice.inj el
 obtain⟨rfl,_,rfl⟩:=w_
 have hle2e:=hle2d.trans hle14
 refine cPl (lst (hrq.mono (((hle7b.trans hle12).trans hle13).trans hle14)) (hus0.mono hle2e)) fun v15 μ15 hle15 hR15=>?_
 obtain⟨LM,bm,cm,km,bbm,rfl,hfm,hbm,hLM⟩:=hR15
 have w_:=FsV.sl hfm
 obtain⟨_,_,em,-,hsm⟩:=w_
 have w_:=Value.slice.inj em
 obtain⟨rfl,_,rfl⟩:=w_
 have ea:=hLA _ hpr
 have ec:=hLC _ hpr
 have el2:=hLL _ hpr
 rw[hpr]at hba hbc hbl
 have hba:bba=true:=hba
 have hbc:bbc=true:=hbc
 have hbl:bbl=true:=hbl
 subst hba hbc hbl
 cases ok with
 |false=>
  refine iIn (fun _=>?_) (fun h=>nomatch h)
  exact rPl rfl
 |true=>
 refine iIn (fun h=>nomatch h) (fun _=>?_)
 cases bbb with
 |false=>
  refine iIn (fun _=>?_) (fun h=>nomatch h)
  exact rPl rfl
 |true=>
 refine iIn (fun h=>nomatch h) (fun _=>?_)
 cases bbm with
 |false=>exact iIn (fun _=>rPl rfl) (fun h=>nomatch h)
 |true=>
 refine iIn (fun h=>nomatch h) (fun _=>?_)
 obtain⟨z,hz,rfl⟩:=hQ rfl
 have w_:=Option.isSome_iff_exists.1 hbb.symm
 obtain⟨rs',hrs'⟩:=w_
 have hers:rs'=cC (z.1.pg p z.2) U:=by
  rw[bH]at hrs'
  split at hrs'
  ·rw [bX] at hrs'
   split at hrs'
   ·rw [gO, cI] at hrs'
    split at hrs'
    ·exact(Option.some.inj hrs').symm
    ·cases hrs'
   ·cases hrs'
  ·cases hrs'
 have eb:=hLB _ hrs'
 have em2:=hLM _ hrs'
 rw[hers]at eb em2
 have hab:∀f∈LA,f∈LB:=fun f hf=>by
  rw[ea]at hf
  rw[eb]
  exact qSe hpos hz.1 hz.2 hU1 s s (Nat.le_refl _) f hf
 have hbc2:∀f∈LB,f∈LC:=fun f hf=>by
  rw[eb]at hf
  rw[ec]
  exact qSd hpos hz.1 hz.2 hU1 s f hf
 have hlm:LL=LM:=by
  rw[el2,em2]
  exact lfp_unf hpos hz.1 hz.2 hU1
 subst hlm
 have hle35:=(hle13.trans hle14).trans hle15
 refine iIn (fun _=>?_) (fun h=>nomatch h)
 refine iIn (fun _=>?_) (fun h=>nomatch h)
 refine iIn (fun _=>?_) (fun h=>nomatch h)
 refine cGv (qCq (hsa.mono (hle12.trans hle35)) (hsb.mono hle35)) ?_
 refine iIn (fun _=>?_) (fun h=>absurd hab (of_decide_eq_false h))
 refine cGv (qCq (hsb.mono hle35) (hsc.mono (hle14.trans hle15))) ?_
 refine iIn (fun _=>?_) (fun h=>absurd hbc2 (of_decide_eq_false h))
 refine ifd (fun _=>?_) (fun h=>absurd rfl h)
 refine cGv (qCq (hsl.mono hle15) hsm) ?_
 refine rPl ?_
 rw[decide_eq_true fun f hf=>hf]
end
end Go.Vx
