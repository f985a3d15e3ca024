/- Texts of the proof, part E2. -/
import Derived.Test.YtdkmmcmnffflaaaGreatE1
namespace Go.Vx
open Go.Proofs Classical
def UnfZ (p : Pg) (nm : ByteArray) (cl ca : Int) (z : UnfD × List (List Gl)) : Prop := UnfAt p nm cl ca z.1 ∧ UnfOk p z.1 z.2
theorem UnfZ.uniq {p : Pg} {nm : ByteArray} {cl ca : Int} {z z' : UnfD × List (List Gl)} (h : UnfZ p nm cl ca z) (h' : UnfZ p nm cl ca z') : z = z' := by
 have e1 := h.1.uniq h'.1
 have e2 := h.2.1
 rw [e1, h'.2.1] at e2
 exact Prod.ext e1 (Option.some.inj e2).symm
noncomputable def ufpO (p : Pg) (nm : ByteArray) (cl ca : Int) (x : Pf) : Option Pf :=
 if h : ∃ z, UnfZ p nm cl ca z then
  (if p.Ok ∧ x.cnt ≤ 200 ∧ OkP p x then some (turnN nm cl ca h.choose.2.length (h.choose.1.q.arity + h.choose.1.q.locals).toNat x.cnt x) else none)
 else none
theorem ufpO_some {p : Pg} {nm : ByteArray} {cl ca : Int} {x : Pf} {z : UnfD × List (List Gl)} (h : UnfZ p nm cl ca z) : ufpO p nm cl ca x = if p.Ok ∧ x.cnt ≤ 200 ∧ OkP p x then some (turnN nm cl ca z.2.length (z.1.q.arity + z.1.q.locals).toNat x.cnt x) else none := by
 have hx : ∃ z, UnfZ p nm cl ca z := ⟨z, h⟩
 have e := hx.choose_spec.uniq h
 rw [ufpO, dif_pos hx, e]
theorem unfO_cases (p : Pg) (nm : ByteArray) (cl ca : Int) : (unfO p nm cl ca = none ∧ ∀ x, ufpO p nm cl ca x = none) ∨ ∃ z, UnfZ p nm cl ca z ∧ unfO p nm cl ca = some (z.1.pg p z.2, z.2.length) := by
 by_cases h : ∃ z, UnfZ p nm cl ca z
 ·obtain ⟨z, hz⟩ := h
  exact .inr ⟨z, hz, unfO_some hz.1 hz.2⟩
 ·exact .inl ⟨by rw [unfO, dif_neg (show ¬ ∃ z : UnfD × List (List Gl), UnfAt p nm cl ca z.1 ∧ UnfOk p z.1 z.2 from h)], fun x => by rw [ufpO, dif_neg h]⟩
def zPf : Value := .agg #[.string ⟨#[]⟩, .int .i64 0, .slice none 0 0, .slice none 0 0]
def optF (P : Pf → Value → Prop) (o : Option Pf) (v : Value) : Prop := match o with
 | none => v = .tuple #[zPf, .bool false]
 | some y => ∃ tv, v = .tuple #[tv, .bool true] ∧ P y tv
section
variable {μ : Mem}
set_option maxHeartbeats 4000000 in
set_option maxRecDepth 20000 in
theorem spec_UnfoldProof_spec {p : Pg} {x : Pf} {nm : ByteArray} {cl ca : Int} {vp v : Value} (hp : RepV μ p.d vp) (hw : p.d.wd) (hv : RepV μ x.d v) (hwx : x.d.wd) (hc0 : InR cl) :
  Spec Tryz.prog 32 [vp, .string nm, .int .i64 cl, .int .i64 ca, v] μ fun w μ' => optF (fun y tv => RepV μ' y.d tv) (ufpO p nm cl ca x) w := by
 have hp0 := hp
 have w_ := Pg.inv hp
 obtain ⟨q0, rfl, hrl⟩ := w_
 have hv0 := hv
 have w_ := Pf.invV hv
 obtain ⟨q, rfl⟩ := w_
 refine Spec.mk Tryz.func32 (by kernel_rfl) ?_
 intro r5 r9 r10
 refine cPl (spec_UnfoldCall_spec (call := ca) hp0 hw hc0) fun v1 μ1 hle1 hR => ?_
 rcases unfO_cases p nm cl ca with ⟨e1, e2⟩ | ⟨z, hz, e1⟩
 ·rw [e1] at hR
  have hR : v1 = .tuple #[.agg #[.slice none 0 0], .bool false] := hR
  subst hR
  intro r12
  refine iIn (fun _ => rPl ?_) (fun h => nomatch h)
  rw [e2]; rfl
 rw [e1] at hR
 obtain ⟨tv, rfl, hR⟩ := hR
 have w_ := Pg.invV hR
 obtain ⟨qa, rfl⟩ := w_
 intro r12
 refine iIn (fun h => nomatch h) (fun _ => ?_)
 refine cPl (spec_ProofOk_spec (hp0.mono hle1) hw (hv0.mono hle1) hwx) fun v2 μ2 hle2 hR2 => ?_
 obtain rfl := hR2
 refine ifnd (fun h => rPl ?_) (fun hok => ?_)
 ·rw [ufpO_some hz, if_neg h]; rfl
 have hok : p.Ok ∧ x.cnt ≤ 200 ∧ OkP p x := hok
 rw [ufpO_some hz, if_pos hok]
 have hle12 := hle1.trans hle2
 refine cPl (l33Find_spec (call := ca) (hp0.mono hle12) hw hc0) fun v3 μ3 hle3 hR3 => ?_
 rcases hR3 with ⟨k, r, cls, c, l, tv, hF, hpo, rfl, hLr⟩ | ⟨hno, rfl⟩
 rotate_left
 ·exact absurd hz.1 (hno _)
 have hle := hle12.trans hle3
 obtain ⟨hk, hr, e, rfl, hl⟩ := hF
 obtain ⟨pv, rfl⟩ := hLr.inv
 obtain ⟨z1, ds⟩ := z
 obtain ⟨hz1, hz2⟩ := hz
 dsimp only at hz1 hz2 ⊢
 have hl2 : z1.l = l := by
  have h1 := hz1.find
  have h2 : z1.k = k := by omega
  have h3 := hz1.rel
  rw [h2, hr] at h3
  have h4 := hz1.cl
  rw [← Option.some.inj h3, e] at h4
  have h5 := hz1.cls
  rw [← Option.some.inj h4, show z1.c = c by have := hz1.cc; omega, hl] at h5
  exact (Option.some.inj h5).symm
 have hpos := hz1.pos
 have hgo := hz1.goal
 rw [hl2] at hpos hgo
 have h0 := hz1.call0
 have hcI : callI l ca = (z1.a : Int) := by rw [callI, if_neg (by omega), hpos]; rfl
 rw [hcI]
 obtain ⟨j, hj, hq⟩ := hz1.called
 have hro := hpo.2 _ _ hq
 have har0 := hro.ar0
 have har4 := hro.ar4
 have hlo0 := hro.lo0
 have hlo8 := hro.lo8
 have hsz := hro.size
 have w_ := cls_elem (Cls.sl hLr).1 hl
 obtain ⟨adl, pl, hell, hrll⟩ := w_
 have hls := csD_sl hrll
 refine eIn hell ?_
 have w_ := Gl.elem hls hgo
 obtain ⟨adg, pg, helg, hrg⟩ := w_
 refine eIn helg ?_
 refine cGv (l14Find_spec (s := z1.g.name) (hp0.mono hle)) ?_
 rw [hj]
 have w_ := Rl.elemA (hrl.mono hle) hq
 obtain ⟨adq, qq, helq, hrq, hbq⟩ := w_
 have hbq : RepV μ3 z1.q.body.d (.agg (z1.q.body.cs qq).toArray) := hbq
 refine eIn helq ?_
 intro r17
 refine cPl (ClausesOf_spec hbq (rel_wd hw hq) ⟨hro.body, by omega⟩) fun v4 μ4 hle4 hR4 => ?_
 rw [hz2.1] at hR4
 obtain ⟨tv4, rfl, hLr4⟩ := hR4
 obtain ⟨p4, rfl⟩ := hLr4.inv
 have hds := (Gl.cl_bnd _ hz2.1).2
 refine num64 (by omega) (by omega) ?_
 have hcb : 0 ≤ (c : Int) ∧ (c : Int) ≤ 1000 := by
  have h1 := (Gl.cl_bnd _ e).2
  have h2 := (List.getElem?_eq_some_iff.1 hl).1
  omega
 have key := l33Proof_spec (nm := nm) (cl := (c : Int)) (ca := ca) (count := ds.length) (more := (z1.q.arity + z1.q.locals).toNat) hcb (by omega) (by omega) x.cnt x (Nat.le_refl _) (by omega) (hok.2.2.g hok.1) ((hv0.mono hle).mono hle4)
 rw [Int.toNat_of_nonneg (by omega)] at key
 refine cPl key fun v5 μ5 hle5 hR5 => ?_
 have w_ := Pf.invV hR5
 obtain ⟨q5, rfl⟩ := w_
 exact rPl ⟨_, rfl, hR5⟩
set_option maxHeartbeats 4000000 in
set_option maxRecDepth 20000 in
theorem impl_UnfoldProof_spec {p : Pg} {x : Pf} {nm : ByteArray} {cl ca : Int} {vp v : Value} (hp : RepV μ p.d vp) (hv : RepV μ x.d v) (hc0 : InR ca) :
  Spec Tryz.prog 34 [vp, .string nm, .int .i64 cl, .int .i64 ca, v] μ fun w μ' => optF (fun y tv => Fresh μ μ' y.d tv) (ufpO p nm cl ca x) w := by
 have hp0 := hp
 have w_ := Pg.inv hp
 obtain ⟨q0, rfl, hrl⟩ := w_
 have hv0 := hv
 have w_ := Pf.invV hv
 obtain ⟨q, rfl⟩ := w_
 refine Spec.mk Tryz.func34 (by kernel_rfl) ?_
 intro r5 r6 r7 r8 r9 r10
 refine cPl (impl_unfolded_spec (clause := cl) hp0 hc0) fun v1 μ1 hle1 hR => ?_
 rcases unfO_cases p nm cl ca with ⟨e1, e2⟩ | ⟨z, hz, e1⟩
 ·rw [e1] at hR
  have hR : v1 = .tuple #[.agg #[.slice none 0 0], .int .i64 0, .bool false] := hR
  subst hR
  intro r12 r13
  refine iIn (fun _ => rPl ?_) (fun h => nomatch h)
  rw [e2]; rfl
 rw [e1] at hR
 obtain ⟨tv, rfl, hR⟩ := hR
 have w_ := Pg.inv hR.rep
 obtain ⟨qa, rfl, hrla⟩ := w_
 intro r12 r13
 refine iIn (fun h => nomatch h) (fun _ => ?_)
 refine cPl (impl_ProofOk_spec (hp0.mono hle1) (hv0.mono hle1)) fun v2 μ2 hle2 hR2 => ?_
 obtain rfl := hR2
 refine ifnd (fun h => rPl ?_) (fun hok => ?_)
 ·rw [ufpO_some hz, if_neg h]; rfl
 have hok : p.Ok ∧ x.cnt ≤ 200 ∧ OkP p x := hok
 rw [ufpO_some hz, if_pos hok]
 have hle := hle1.trans hle2
 obtain ⟨z1, ds⟩ := z
 obtain ⟨hz1, hz2⟩ := hz
 dsimp only at hz1 hz2 ⊢ hrla
 refine cGv (relation_spec (s := nm) (hp0.mono hle)) ?_
 have hrk : relAt p nm = (z1.k : Int) := by
  have h1 := hz1.find
  rwa [findR, if_pos hok.1] at h1
 rw [hrk]
 have hr := hz1.rel
 have hkl := (List.getElem?_eq_some_iff.1 hr).1
 obtain ⟨j, hj, hq⟩ := hz1.called
 have hro := hok.1.2 _ _ hq
 have har0 := hro.ar0
 have har4 := hro.ar4
 have hlo0 := hro.lo0
 have hlo8 := hro.lo8
 have hro1 := hok.1.2 _ _ hr
 have hlr0 := hro1.lo0
 have hlr8 := hro1.lo8
 have hra : (z1.pg p ds).rels[z1.k]? = some ⟨z1.r.name, z1.r.arity, z1.r.locals + z1.q.arity + z1.q.locals, cgG (z1.ls ds)⟩ := by
  show (p.rels.set z1.k _)[z1.k]? = _
  rw [List.getElem?_set_self hkl]
 have w_ := Rl.elemA (hrla.mono hle2) hra
 obtain ⟨ada, qra, hela, _, _⟩ := w_
 have w_ := Rl.elemA (hrl.mono hle) hr
 obtain ⟨adr, qr, helr, _, _⟩ := w_
 refine eIn hela (eIn helr ?_)
 have hds := (Gl.cl_bnd _ hz2.1).2
 have hgx := hok.2.2.g hok.1
 have hcb : 0 ≤ cl ∧ cl ≤ 1000 := by
  have h1 := (Gl.cl_bnd _ hz1.cl).2
  have h2 := (List.getElem?_eq_some_iff.1 hz1.cls).1
  have h3 := hz1.cc
  omega
 have hca := hz1.call0
 refine nEq (x := ((z1.q.arity + z1.q.locals).toNat : Int)) ?_ ?_
 ·show IntKind.i64.wrap (z1.r.locals + z1.q.arity + z1.q.locals - z1.r.locals) = _
  rw [wrap64 (by omega) (by omega)]; omega
 intro r16 r17
 refine call_frz [1, 2, 3, 7, 8, 9] ?_
 intro m1 l1 n1 a1 m2 l2 n2 a2 m3 l3 n3 a3 m4 l4 n4 a4 m5 l5 n5 a5 m6 l6 n6 a6
 have l56 := l5.trans l6
 have l46 := l4.trans l56
 have l36 := l3.trans l46
 have l26 := l2.trans l36
 have hC : TurnC m6 nm cl ca ds.length (z1.q.arity + z1.q.locals).toNat r6 r17 r7 r13 r16 r8 := ⟨l26 _ _ a1, a6, l36 _ _ a2, l56 _ _ a4, l6 _ _ a5, l46 _ _ a3⟩
 have hlem : μ.Le m6 := hle.trans (l1.trans l26)
 refine call_go (turn_spec hcb (by omega) (by omega) hca x.cnt x (Nat.le_refl _) (by omega) hgx hC (hv0.mono hlem)) fun v5 μ5 hle5 hR5 => ?_
 have w_ := Pf.invV hR5.rep
 obtain ⟨q5, rfl⟩ := w_
 exact rPl ⟨_, rfl, hR5.mono hlem (Mem.Le.refl _)⟩
end
end Go.Vx
namespace Go.Vx
open Go.Proofs Classical
section
variable {μ : Mem}
theorem pf_cnt_sz : ∀ x : Pf, x.d.cnt ≤ 2 + 3 * x.d.sz :=
 Pf.ind fun x ih => by
  have h1 := tms_cnt x.values
  have h2 : D.cnts (x.kids.map Pf.d) ≤ 3 * x.kids.length + 3 * D.szs (x.kids.map Pf.d) := by
   generalize x.kids = l at ih
   induction l with
   | nil => simp [D.cnts, D.szs]
   | cons t l ih2 =>
    have h1 := ih t (by simp)
    have h2 := ih2 fun t ht => ih t (by simp [ht])
    simp only [List.map_cons, D.cnts, D.szs, List.length_cons]; omega
  rw [Pf.cnt_eq, Pf.sz_eq]; omega
theorem pf_mt (x : Pf) (k : Int) : (x.d.mt k).2 = k + (D.cnts (x.values.map Tm.d) + D.cnts (x.kids.map Pf.d)) := by
 rw [Pf.mt_eq]
 have h1 := D.mks_cnt (x.values.map Tm.d) k
 have h2 := D.mks_cnt (x.kids.map Pf.d) (D.mks (x.values.map Tm.d) k).2
 dsimp only
 omega
def resPf : Option Pf → Pf
 | some y => y
 | none => .mk ⟨#[]⟩ 0 [] []
theorem zeroPf_own : OwnV (resPf none).d Mem.nil zPf := by
 rw [resPf, Pf.d_eq]
 exact ⟨_, rfl, OwnS.str (OwnS.int (OwnS.cons (c1 := [_]) (Parts.nil_left _) (Own.nilSl 4) (OwnS.last (Own.nilSl 4))))⟩
theorem optF_rep {μ : Mem} {o : Option Pf} {v : Value} (h : optF (fun y tv => RepV μ y.d tv) o v) : ∃ tv, v = .tuple #[tv, .bool o.isSome] ∧ RepV μ (resPf o).d tv := by
 cases o with
 | some y => obtain ⟨tv, rfl, h⟩ := h; exact ⟨tv, rfl, h⟩
 | none => exact ⟨_, h, zeroPf_own.rep (fun _ _ h => nomatch h)⟩
theorem optF_fresh {μ μ' : Mem} {o : Option Pf} {v : Value} (h : optF (fun y tv => Fresh μ μ' y.d tv) o v) : ∃ tv, v = .tuple #[tv, .bool o.isSome] ∧ Fresh μ μ' (resPf o).d tv := by
 cases o with
 | some y => obtain ⟨tv, rfl, h⟩ := h; exact ⟨tv, rfl, h⟩
 | none => exact ⟨_, h, Mem.nil, zeroPf_own, (fun _ _ h => nomatch h), fun _ h => absurd rfl h⟩
theorem nils_cnt : ∀ m : Nat, D.cnts ((List.replicate m T.nil.tm).map Tm.d) ≤ 3 * m
 | 0 => Nat.le_refl _
 | m + 1 => by
  have h := nils_cnt m
  have e : T.nil.tm.d.cnt = 3 := rfl
  rw [List.replicate_succ, List.map_cons, D.cnts, e]
  omega
theorem turns_cnt {F : Pf → Pf} (hF : ∀ y, (F y).d.cnt ≤ y.d.cnt + 3000 * y.cnt) : ∀ l : List Pf, D.cnts ((l.map F).map Pf.d) ≤ D.cnts (l.map Pf.d) + 3000 * Pf.cnts l
 | [] => by simp [D.cnts]
 | y :: l => by
  have h1 := hF y
  have h2 := turns_cnt hF l
  simp only [List.map_cons, D.cnts, Pf.cnts]
  omega
theorem turnK_cnt {F : Pf → Pf} (hF : ∀ y, (F y).d.cnt ≤ y.d.cnt + 3000 * y.cnt) {A : Int} {xs : List Pf} : ∀ i, i ≤ xs.length → D.cnts ((valsT A xs i).map Tm.d) + D.cnts ((kidsT F A xs i).map Pf.d) ≤ D.cnts ((xs.take i).map Pf.d) + 3000 * Pf.cnts (xs.take i)
 | 0, _ => by rw [valsT_zero]; simp [kidsT, D.cnts]
 | i + 1, h => by
  have ih := turnK_cnt hF (A := A) (xs := xs) i (by omega)
  have w_ := aSo (l := xs) (i := i) (by omega)
  obtain ⟨y, hy⟩ := w_
  have h1 := hF y
  have h2 := turns_cnt hF y.kids
  have h3 := Pf.cnt_eq y
  have h4 := y.cnt_eq1
  rw [valsT_succ hy, kidsT_succ hy, Pf.cnts_take hy, List.take_add_one, hy, Option.toList_some]
  simp only [List.map_append, D.cnts_append, List.map_cons, List.map_nil, D.cnts]
  split
  ·omega
  ·simp only [List.map_cons, List.map_nil, D.cnts]; omega
theorem turnN_cnt {nm : ByteArray} {cl ca : Int} {count more : Nat} (hm : more ≤ 1000) : ∀ (n : Nat) (x : Pf), (turnN nm cl ca count more n x).d.cnt ≤ x.d.cnt + 3000 * x.cnt
 | 0, x => Nat.le_add_right _ _
 | n + 1, x => by
  have hF := turnN_cnt (nm := nm) (cl := cl) (ca := ca) (count := count) hm n
  show (turnB nm cl ca count more (turnN nm cl ca count more n) x).d.cnt ≤ _
  generalize turnN nm cl ca count more n = F at hF
  have h1 := turnK_cnt hF (A := hitC nm cl ca x) (xs := x.kids) x.kids.length (Nat.le_refl _)
  have h2 := x.cnt_eq1
  have h3 : D.cnts ((if x.rel = nm ∧ x.clause ≠ cl then List.replicate more T.nil.tm else []).map Tm.d) ≤ 3000 := by
   split
   ·have := nils_cnt more; omega
   ·exact Nat.zero_le _
  rw [List.take_length] at h1
  unfold turnB
  rw [Pf.cnt_eq, Pf.cnt_eq]
  simp only [Pf.values, Pf.kids, List.map_append, D.cnts_append] at h1 h2 ⊢
  omega
theorem ufpO_cnt {p : Pg} {nm : ByteArray} {cl ca : Int} {x : Pf} : D.cnts ((resPf (ufpO p nm cl ca x)).values.map Tm.d) + D.cnts ((resPf (ufpO p nm cl ca x)).kids.map Pf.d) ≤ D.cnts (x.values.map Tm.d) + D.cnts (x.kids.map Pf.d) + 600000 := by
 rcases unfO_cases p nm cl ca with ⟨_, e2⟩ | ⟨z, hz, _⟩
 ·rw [e2]; exact Nat.zero_le _
 rw [ufpO_some hz]
 split
 ·rename_i hok
  obtain ⟨j, _, hq⟩ := hz.1.called
  have hro := hok.1.2 _ _ hq
  have h1 := hro.ar4
  have h2 := hro.lo8
  have k := turnN_cnt (nm := nm) (cl := cl) (ca := ca) (count := z.2.length) (more := (z.1.q.arity + z.1.q.locals).toNat) (by omega) x.cnt x
  rw [Pf.cnt_eq, Pf.cnt_eq] at k
  have h3 := hok.2.1
  show D.cnts ((turnN _ _ _ _ _ _ x).values.map Tm.d) + D.cnts ((turnN _ _ _ _ _ _ x).kids.map Pf.d) ≤ _
  omega
 ·exact Nat.zero_le _
set_option maxHeartbeats 4000000 in
theorem FnExactUnfoldProof_spec {t0 : Pg} {v0 : Value} {t1 : Pf} {v1 : Value} {nm : ByteArray} {cl ca : Int} (kc : InR cl) (ka : InR ca) (h0 : RepV μ t0.d v0) (h1 : RepV μ t1.d v1) (w0 : t0.d.wd) (w1 : t1.d.wd) :
  Spec Tryz.prog 7 [v0, .string nm, .int .i64 cl, .int .i64 ca, v1] μ fun r _ => r = .bool true := by
 obtain ⟨p0, rfl⟩ := Pg.invV h0
 obtain ⟨p1, rfl⟩ := Pf.invV h1
 refine Spec.mk Tryz.func7 (by kernel_rfl) ?_
 intro r0 r1
 refine ifd (fun h => rPl rfl) (fun h => ?_)
 refine cGv (szProgram_spec t0 h0 (by omega) (by omega) w0) ?_
 refine ifd (fun h => rPl rfl) (fun h => ?_)
 have q0 := szR_ge h
 rw [szR_pos q0] at h ⊢
 refine cGv (szProof_spec t1 h1 (by omega) (by omega) w1) ?_
 refine ifd (fun h => rPl rfl) (fun h => ?_)
 have q1 := szR_ge h
 rw [szR_pos q1] at h
 have hb0 : t0.d.sz ≤ 1048576 := by omega
 have hb1 : t1.d.sz ≤ 1048576 := by omega
 refine cPl (toProgram_spec t0 h0 hb0) fun u1 μ1 hle1 hf1 => ?_
 replace h0 := h0.mono hle1
 replace h1 := h1.mono hle1
 obtain ⟨qq2, rfl⟩ := Pg.invV hf1.rep
 have a0 := hf1.rep
 refine cPl (toProof_spec t1 h1 hb1) fun u3 μ3 hle3 hf3 => ?_
 replace h0 := h0.mono hle3
 replace h1 := h1.mono hle3
 replace a0 := a0.mono hle3
 obtain ⟨qq4, rfl⟩ := Pf.invV hf3.rep
 have a1 := hf3.rep
 refine cPl (spec_UnfoldProof_spec (nm := nm) (cl := cl) (ca := ca) a0 w0 a1 w1 kc) fun u5 μ5 hle5 hR => ?_
 replace h0 := h0.mono hle5
 replace h1 := h1.mono hle5
 replace a0 := a0.mono hle5
 replace a1 := a1.mono hle5
 obtain ⟨w0, rfl, hw0⟩ := optF_rep hR
 obtain ⟨qq6, rfl⟩ := Pf.invV hw0
 have hw := hw0
 intro rw0
 refine call_new id (apart_nil _) Owns.none ((toProgram_spec t0 (h0.mono (Mem.le_join _ _)) hb0).weaken fun v μ' _ h => ⟨v, rfl, h⟩) fun x0 μ7 H7 hle7 hap7 ho7 => ?_
 replace h0 := h0.mono hle7
 replace h1 := h1.mono hle7
 replace hw := hw.mono hle7
 obtain ⟨qq8, rfl⟩ := Pg.invV (Owns.rep (l1 := []) hap7 ho7)
 have xx0 := (Owns.rep (l1 := []) hap7 ho7)
 intro rx0
 refine call_new id hap7 ho7 ((toProof_spec t1 (h1.mono (Mem.le_join _ _)) hb1).weaken fun v μ' _ h => ⟨v, rfl, h⟩) fun x1 μ9 H9 hle9 hap9 ho9 => ?_
 replace h0 := h0.mono hle9
 replace h1 := h1.mono hle9
 replace hw := hw.mono hle9
 obtain ⟨qq10, rfl⟩ := Pf.invV (Owns.rep (l1 := [_]) hap9 ho9)
 have xx1 := (Owns.rep (l1 := [_]) hap9 ho9)
 intro rx1
 refine call_new (fun gv => .tuple #[gv, .bool (ufpO t0 nm cl ca t1).isSome]) hap9 ho9 ((impl_UnfoldProof_spec (nm := nm) (cl := cl) (ca := ca) (Owns.rep (l1 := []) hap9 ho9) (Owns.rep (l1 := [_]) hap9 ho9) ka).weaken fun v μ' _ h => optF_fresh h) fun g0 μ11 H11 hle11 hap11 ho11 => ?_
 replace h0 := h0.mono hle11
 replace h1 := h1.mono hle11
 replace hw := hw.mono hle11
 obtain ⟨qq12, rfl⟩ := Pf.invV (Owns.rep (l1 := [_, _]) hap11 ho11)
 have gg := (Owns.rep (l1 := [_, _]) hap11 ho11)
 intro rg0
 refine call_read hap11 (eqProof_spec _ (Owns.rep (l1 := [_, _]) hap11 ho11) (hw.mono (Mem.le_join _ _))) ?_
 refine iIn (fun h => nomatch h) (fun _ => ?_)
 refine iIn (fun h => absurd h (by simp)) (fun _ => ?_)
 refine cDa hap11 (toProgram_spec t0 h0 hb0) fun u13 μ13 hle13 hap13 hf13 => ?_
 replace h0 := h0.mono hle13
 replace h1 := h1.mono hle13
 replace hw := hw.mono hle13
 refine call_read hap13 (eqProgram_spec t0 (Owns.rep (l1 := []) hap13 ho11) (hf13.rep.mono (Mem.le_join _ _))) ?_
 refine iIn (fun h => nomatch h) (fun _ => ?_)
 refine cDa hap13 (toProof_spec t1 h1 hb1) fun u14 μ14 hle14 hap14 hf14 => ?_
 replace h0 := h0.mono hle14
 replace h1 := h1.mono hle14
 replace hw := hw.mono hle14
 refine call_read hap14 (eqProof_spec t1 (Owns.rep (l1 := [_]) hap14 ho11) (hf14.rep.mono (Mem.le_join _ _))) ?_
 refine iIn (fun h => nomatch h) (fun _ => ?_)
 have ca0 := pg_cnt_sz t0
 rw [Pg.cnt_eq] at ca0
 have ma0 := pg_mt t0 (1)
 have ca1 := pf_cnt_sz t1
 rw [Pf.cnt_eq] at ca1
 have ma1 := pf_mt t1 ((t0.d.mt (1)).2)
 have rz := ufpO_cnt (p := t0) (nm := nm) (cl := cl) (ca := ca) (x := t1)
 have mg := pf_mt (resPf (ufpO t0 nm cl ca t1)) 1
 refine call_mark (l1 := []) hap14 ho11 (fun hx o => markProgram_spec t0 o (by omega) (by omega)) fun H15 hap15 ho15 => ?_
 refine call_mark (l1 := [_]) hap15 ho15 (fun hx o => markProof_spec t1 o (by omega) (by omega)) fun H16 hap16 ho16 => ?_
 refine ifd (fun h => by omega) (fun _ => ?_)
 refine call_read hap16 (eqProof_spec _ (Owns.rep (l1 := [_, _]) hap16 ho16) (hw.mono (Mem.le_join _ _))) ?_
 refine iIn (fun h => nomatch h) (fun _ => ?_)
 refine iIn (fun h => absurd h (by simp)) (fun _ => ?_)
 refine call_mark (l1 := [_, _]) hap16 ho16 (fun hx o => markProof_spec _ o (by omega) (by omega)) fun H17 hap17 ho17 => ?_
 refine call_read hap17 (heldProof_spec _ (Owns.rep (l1 := [_, _]) hap17 ho17) (by omega) (by omega)) ?_
 refine ifd (fun h => by omega) (fun _ => ?_)
 refine ifnd (fun h => absurd rfl h) (fun _ => ?_)
 refine cDa hap17 (toProgram_spec t0 h0 hb0) fun u18 μ18 hle18 hap18 hf18 => ?_
 replace h0 := h0.mono hle18
 replace h1 := h1.mono hle18
 replace hw := hw.mono hle18
 obtain ⟨qq19, rfl⟩ := Pg.invV hf18.rep
 have o0 := hf18.rep
 refine cDa hap18 (toProof_spec t1 h1 hb1) fun u20 μ20 hle20 hap20 hf20 => ?_
 replace h0 := h0.mono hle20
 replace h1 := h1.mono hle20
 replace hw := hw.mono hle20
 replace o0 := o0.mono hle20
 obtain ⟨qq21, rfl⟩ := Pf.invV hf20.rep
 have o1 := hf20.rep
 refine cDa hap20 ((impl_UnfoldProof_spec (nm := nm) (cl := cl) (ca := ca) o0 o1 ka).weaken fun v μ' _ h => optF_fresh h) fun u22 μ22 hle22 hap22 hR => ?_
 replace h0 := h0.mono hle22
 replace h1 := h1.mono hle22
 replace hw := hw.mono hle22
 replace o0 := o0.mono hle22
 replace o1 := o1.mono hle22
 obtain ⟨h0, rfl, hh0⟩ := hR
 obtain ⟨qq23, rfl⟩ := Pf.invV hh0.rep
 have hh := hh0.rep
 intro rh0
 refine call_read hap22 (eqProof_spec _ (hh.mono (Mem.le_join _ _)) (hw.mono (Mem.le_join _ _))) ?_
 refine iIn (fun h => nomatch h) (fun _ => ?_)
 refine iIn (fun h => absurd h (by simp)) (fun _ => ?_)
 refine call_read hap22 (heldProof_spec _ (Owns.rep (l1 := [_, _]) hap22 ho17) (by omega) (by omega)) ?_
 refine ifd (fun h => by omega) (fun _ => ?_)
 refine ifnd (fun h => absurd rfl h) (fun _ => ?_)
 exact rPl rfl
end
end Go.Vx
