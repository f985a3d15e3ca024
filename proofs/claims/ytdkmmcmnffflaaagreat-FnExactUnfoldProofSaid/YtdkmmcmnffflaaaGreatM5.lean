/- Texts of the proof, part M5. -/
import Derived.Test.YtdkmmcmnffflaaaGreatM4
namespace Go.Vx
open Go.Proofs Classical
section
variable {X : Type} {es : Nat} {f : X → D}
theorem Prs.set {g' : Mem} {p' : X × Value} (h1 : Own (f p'.1) g' (vcells p'.2)) (hn : (f p'.1).n = es) (hz : (vcells p'.2).length = es ∧ ∀ u ∈ vcells p'.2, u.oneCell' = true) : ∀ {ps : List (X × Value)} {g : Mem} (k : Nat), Prs es f ps g → k < ps.length → Apart g g' → ∃ g2 : Mem, Prs es f (ps.set k p') g2 ∧ g2.Le (g.join g')
 | [], _, _, _, h, _ => absurd h (Nat.not_lt_zero _)
 | q :: ps, g, 0, h, _, ha => by
  obtain ⟨ga, gb, hpp, _, _, h3⟩ := h.uncons
  have ha2 : Apart g' gb := fun b hb => by
   cases e : gb b with
   | none => rfl
   | some o => exact absurd (ha b (by rw [hpp.right b o e]; simp)) hb
  refine ⟨g'.join gb, Prs.cons (Parts.join ha2) h1 hn hz h3, join_le (fun b o hb => ?_) (hpp.right.trans (Mem.le_join g g'))⟩
  rw [Mem.join_get]
  cases e : g b with
  | none => exact hb
  | some o' => have := ha b (by rw [e]; simp); rw [this] at hb; cases hb
 | q :: ps, g, k + 1, h, hk, ha => by
  obtain ⟨ga, gb, hpp, ho, hqn, h3⟩ := h.uncons
  have hab : Apart gb g' := fun b hb => ha b (by
   cases e : gb b with
   | none => exact absurd e hb
   | some o => rw [hpp.right b o e]; simp)
  obtain ⟨g2, h4, h5⟩ := Prs.set h1 hn hz k h3 (Nat.lt_of_succ_lt_succ hk) hab
  have haa : Apart ga g2 := fun b hb => by
   cases e : g2 b with
   | none => rfl
   | some o =>
    have h6 := h5 b o e
    rw [Mem.join_get] at h6
    have hgb := hpp.apart b hb
    rw [hgb] at h6
    have hg : g b ≠ none := by
     cases e2 : ga b with
     | none => exact absurd e2 hb
     | some o2 => rw [hpp.left b o2 e2]; simp
    have := ha b hg
    rw [this] at h6; cases h6
  refine ⟨ga.join g2, Prs.cons (Parts.join haa) ho hqn (h.size q (by simp)) h4, join_le (hpp.left.trans (Mem.le_join g g')) (h5.trans ?_)⟩
  exact join_le (hpp.right.trans (Mem.le_join g g')) (Mem.le_join_right ha)
end
theorem Grown.at {es : Nat} {μ μ1 : Mem} {ds : List D} {us : List Value} (h : Grown es μ μ1 ds us) (hz : ∀ y ∈ us, (vcells y).length = es ∧ ∀ u ∈ vcells y, u.oneCell' = true) {k : Nat} {d : D} {u : Value} (hd : ds[k]? = some d) (hu : us[k]? = some u) : ∃ g' : Mem, Own d g' (vcells u) := by
 obtain ⟨g, ho, _, _⟩ := h
 have w_ := Prs.zip (f := id) (xs := ds) (by simpa using ho) hz
 obtain ⟨hP, -, -⟩ := w_
 obtain ⟨g', _, h2⟩ := Prs.at hP (d, u) (List.mem_of_getElem? (i := k) (by rw [List.getElem?_zip_eq_some]; exact ⟨hd, hu⟩))
 exact ⟨g', h2⟩
theorem Grown.set {es : Nat} {μ μ1 μ2 : Mem} {ds : List D} {us : List Value} {k : Nat} {d' : D} {v' : Value} (h : Grown es μ1 μ2 ds us) (hz : ∀ y ∈ us, (vcells y).length = es ∧ ∀ u ∈ vcells y, u.oneCell' = true) (hk : k < us.length) (hv : Fresh μ μ1 d' v') (h01 : μ.Le μ1) (h12 : μ1.Le μ2) (hn : d'.n = es) (hz' : (vcells v').length = es ∧ ∀ u ∈ vcells v', u.oneCell' = true) : Grown es μ μ2 (ds.set k d') (us.set k v') := by
 obtain ⟨g, ho, hg, hnew⟩ := h
 obtain ⟨g', ho', hg', hnew'⟩ := hv
 have hl := ho.len
 have hap : Apart g g' := fun b hb => by
  have h1 := hnew b hb
  cases e : g' b with
  | none => rfl
  | some o => have := hg' b o e; rw [h1] at this; cases this
 have w_ := Prs.zip (f := id) (xs := ds) (by simpa using ho) hz
 obtain ⟨hP, e1, e2⟩ := w_
 obtain ⟨g2, h2, h3⟩ := Prs.set (f := id) (p' := (d', v')) ho'.cells hn hz' k hP (by rw [List.length_zip]; omega) hap
 have h4 := h2.own
 rw [List.map_set, List.map_set, e2] at h4
 have e3 : (ds.zip us).map (fun p => id p.1) = ds := e1
 rw [e3] at h4
 refine ⟨g2, h4, fun b o hb => ?_, fun b hb => ?_⟩
 ·exact join_le hg (hg'.trans h12) b o (h3 b o hb)
 ·cases e : g2 b with
  | none => exact absurd e hb
  | some o =>
   have h5 := h3 b o e
   rw [Mem.join_get] at h5
   cases e6 : g b with
   | some o2 =>
    have h7 := hnew b (by rw [e6]; simp)
    cases e8 : μ b with
    | none => rfl
    | some o3 => have := h01 b o3 e8; rw [h7] at this; cases this
   | none =>
    rw [e6] at h5
    have h5 : g' b = some o := h5
    exact hnew' b (by rw [h5]; simp)
end Go.Vx
namespace Go.Vx
open Go.Proofs Classical
def unfR (P : Pg → Value → Prop) (o : Option (Pg × Nat)) (v : Value) : Prop := match o with
 | none => v = .tuple #[.agg #[.slice none 0 0], .int .i64 0, .bool false]
 | some (y, n) => ∃ tv, v = .tuple #[tv, .int .i64 n, .bool true] ∧ P y tv
theorem csD_sl {μ : Mem} {c : List Gl} {p : Option Addr × Nat} (h : RepV μ (csD c) (.slice p.1 c.length p.2)) : Sl μ 4 p.1 c.length (c.map Gl.d) := by
 have w_ := Rep.sl (xs := c.map Gl.d) h
 obtain ⟨b', c', e1, hs⟩ := w_
 have w_ := Value.slice.inj e1
 obtain ⟨rfl, _, _⟩ := w_
 simpa using hs
theorem eqG_rep {μ : Mem} {n : Int} {i : Nat} {t : Tm} {v : Value} (h : RepV μ (.sl 4 ([(T.var (n + i)).tm, t].map Tm.d)) v) : RepV μ (eqG n i t).d (.agg #[.int .i64 2, .string ⟨#[]⟩, v, .slice none 0 0]) := by
 rw [eqG, Gl.d_eq]
 have hnil : RepV μ (.sl 4 (([] : List Gl).map Gl.d)) (.slice none 0 0) := ⟨none, 0, rfl, ⟨Nat.zero_le _, Nat.zero_le _⟩, (fun _ h => nomatch h), .inl rfl⟩
 exact ⟨_, rfl, RepS.int (RepS.str (RepS.cons1 h (RepS.last hnil)))⟩
section
variable {μ : Mem}
set_option maxHeartbeats 4000000 in
set_option maxRecDepth 20000 in
theorem impl_unfolded_spec {p : Pg} {nm : ByteArray} {clause call : Int} {v : Value} (hp : RepV μ p.d v) (hcl : InR call) :
  Spec Tryz.prog 87 [v, .string nm, .int .i64 clause, .int .i64 call] μ fun v μ' => unfR (fun y tv => Fresh μ μ' y.d tv) (unfO p nm clause call) v := by
 have hp0 := hp
 have w_ := Pg.inv hp
 obtain ⟨q, rfl, hrl⟩ := w_
 refine Spec.mk Tryz.func87 (by kernel_rfl) ?_
 intro r4 r8
 refine cPl (impl_FindRel_spec hp0) fun v1 μ1 hle1 hR => ?_
 obtain rfl := hR
 refine ifd (fun h => ?_) (fun h => ?_)
 ·refine rPl ?_
  rw [unfO_none fun x hx => by have := hx.find; omega]
  rfl
 have w_ := Int.eq_ofNat_of_zero_le (show 0 ≤ findR p nm by omega)
 obtain ⟨k, hk⟩ := w_
 have hpo : p.Ok := Classical.byContradiction fun e => by rw [findR, if_neg e] at h; exact h (by decide)
 have hfind : findR p nm = relAt p nm := by rw [findR, if_pos hpo]
 have w_ := relAt_get (p := p) (s := nm) (by omega)
 obtain ⟨k', r, hk', hr, -⟩ := w_
 obtain rfl : k = k' := by omega
 have hro := hpo.2 _ r hr
 have har0 := hro.ar0
 have har4 := hro.ar4
 have hlo0 := hro.lo0
 have hlo8 := hro.lo8
 have w_ := Rl.elemA (hrl.mono hle1) hr
 obtain ⟨adr, qr, helr, hrr, hbody⟩ := w_
 have hbody : RepV μ1 r.body.d (.agg (r.body.cs qr).toArray) := hbody
 have hX : ∀ x, UnfAt p nm clause call x → x.k = k ∧ x.r = r := fun x hx => by
  have h1 := hx.find
  have h2 : x.k = k := by omega
  have h3 := hx.rel
  rw [h2, hr] at h3
  exact ⟨h2, (Option.some.inj h3).symm⟩
 rw [hk]
 refine eIn helr ?_
 refine cPl (clausesOf_spec r.body hbody hro.body (by have := hro.size; omega)) fun v2 μ2 hle2 hR2 => ?_
 obtain ⟨o2, e⟩ : ∃ o, r.body.cl = o := ⟨_, rfl⟩
 rw [e] at hR2
 match o2, e, hR2 with
 | none, e, hR2 =>
  obtain rfl := hR2
  refine iIn (fun _ => ?_) (fun h => nomatch h)
  refine rPl ?_
  rw [unfO_none fun x hx => by have h1 := hx.cl; rw [(hX x hx).2, e] at h1; cases h1]
  rfl
 | some cls, e, hR2 =>
 obtain ⟨tv, rfl, hLr⟩ := hR2
 obtain ⟨pv, rfl⟩ := hLr.inv
 have hXc : ∀ x, UnfAt p nm clause call x → x.cls = cls := fun x hx => by
  have h1 := hx.cl
  rw [(hX x hx).2, e] at h1
  exact (Option.some.inj h1).symm
 refine iIn (fun h => nomatch h) (fun _ => ?_)
 refine ifd (fun h1 => ?_) (fun h1 => ?_)
 ·refine rPl ?_
  rw [unfO_none fun x hx => by have := hx.cc; omega]
  rfl
 refine ifd (fun h2 => ?_) (fun h2 => ?_)
 ·refine rPl ?_
  rw [unfO_none fun x hx => by
   have h3 := hx.cc
   have h4 := (List.getElem?_eq_some_iff.1 hx.cls).1
   rw [hXc x hx] at h4; omega]
  rfl
 refine ifd (fun h3 => ?_) (fun h3 => ?_)
 ·refine rPl ?_
  rw [unfO_none fun x hx => by have := hx.call0; omega]
  rfl
 have w_ := Int.eq_ofNat_of_zero_le (show 0 ≤ clause by omega)
 obtain ⟨c, rfl⟩ := w_
 have w_ := Int.eq_ofNat_of_zero_le (show 0 ≤ call by omega)
 obtain ⟨kc, rfl⟩ := w_
 have w_ := aSo (l := cls) (i := c) (by omega)
 obtain ⟨l, hl⟩ := w_
 have hsl := (Cls.sl hLr).1
 have w_ := cls_elem hsl hl
 obtain ⟨adl, pl, hell, hrll⟩ := w_
 have hls := csD_sl hrll
 have hbnd := Gl.cl_bnd r.body e
 have hsz := hro.size
 have hll := hbnd.1 l (mAt hl)
 have hcll := hbnd.2
 refine eIn hell ?_
 refine cPl (placeOfCall_spec hls (by omega) (show (kc : Int) ≤ 9223372036854775807 from hcl.2)) fun v3 μ3 hle3 hR3 => ?_
 obtain ⟨rfl, e3⟩ := hR3
 obtain rfl := e3.symm
 obtain ⟨oa, ea⟩ : ∃ o, callIdx l kc = o := ⟨_, rfl⟩
 rw [ea]
 match oa, ea with
 | none, ea =>
  refine ifd (fun _ => ?_) (fun h => absurd (show placeI none < 0 by decide) h)
  refine rPl ?_
  rw [unfO_none fun x hx => by
   have h4 := hx.cls
   rw [hXc x hx, show x.c = c by have := hx.cc; omega, hl] at h4
   have h5 := hx.pos
   rw [← Option.some.inj h4, Int.toNat_natCast, ea] at h5
   cases h5]
  rfl
 | some a, ea =>
 have w_ := callIdx_at ea
 obtain ⟨g, hg, h9⟩ := w_
 rw [show placeI (some a) = (a : Int) from rfl]
 refine ifd (fun h => absurd h (by omega)) (fun _ => ?_)
 have w_ := Gl.elem hls hg
 obtain ⟨adg, pg, helg, hrg⟩ := w_
 have hal := (List.getElem?_eq_some_iff.1 hg).1
 refine eIn hell ?_
 refine eIn helg ?_
 intro r15
 have hgm : g ∈ r.body.all := (Gl.cl_all r.body e l (mAt hl) g (mAt hg)).1
 have w_ := hro.calls.all g hgm h9
 obtain ⟨j, q2, hj, hq2, harq⟩ := w_
 refine cGv (relation_spec (RepV.mono (hle1.trans hle2) hp0)) ?_
 rw [hj]
 have w_ := Rl.elemA (hrl.mono (hle1.trans hle2)) hq2
 obtain ⟨adq, qq, helq, hrq, hbodyq⟩ := w_
 have hbodyq : RepV μ2 q2.body.d (.agg (q2.body.cs qq).toArray) := hbodyq
 have hqo := hpo.2 _ q2 hq2
 refine eIn helq ?_
 intro r16
 refine cPl (clausesOf_spec q2.body hbodyq hqo.body (by have := hqo.size; omega)) fun v4 μ4 hle4 hR4 => ?_
 have hAt : UnfAt p nm c kc ⟨k, r, cls, c, l, a, g, q2⟩ := ⟨hk, hr, e, rfl, hl, by omega, by rw [Int.toNat_natCast]; exact ea, hg, j, hj, hq2⟩
 obtain ⟨o4, e4⟩ : ∃ o, q2.body.cl = o := ⟨_, rfl⟩
 rw [e4] at hR4
 match o4, e4, hR4 with
 | none, e4, hR4 =>
  obtain rfl := hR4
  refine iIn (fun _ => ?_) (fun h => nomatch h)
  refine rPl ?_
  rw [unfO_bad hAt fun ds hd => by have h1 := hd.1; rw [show q2.body.cl = none from e4] at h1; cases h1]
  rfl
 | some ds, e4, hR4 =>
 obtain ⟨tv, rfl, hDr⟩ := hR4
 obtain ⟨pd, rfl⟩ := hDr.inv
 refine iIn (fun h => nomatch h) (fun _ => ?_)
 have hle14 := hle2.trans hle4
 have helr4 := helr.mono hle14
 have hLr4 := RepV.mono hle4 hLr
 have hell4 := hell.mono hle4
 have hrll4 := RepV.mono hle4 hrll
 have hrg4 := RepV.mono hle4 hrg
 refine eIn helr4 ?_
 refine eIn helr4 ?_
 refine num64 (by omega) (by omega) ?_
 intro r19
 have w_ := Rep.src hLr4
 obtain ⟨vc, hvc, hvcl, hvcc, hvcs⟩ := w_
 have w_ := Rep.src (ds := l.map Gl.d) hrll4
 obtain ⟨vl, hvl, hvll, hvlc, hvls⟩ := w_
 have hcl := (List.getElem?_eq_some_iff.1 hl).1
 have hgT := Gl.termsW hrg4
 have hgts : Sl μ4 4 pg.1.1 g.terms.length (g.terms.map Tm.d) := by
  have w_ := Rep.sl (xs := g.terms.map Tm.d) hgT
  obtain ⟨b', c', e1, hs⟩ := w_
  have w_ := Value.slice.inj e1
  obtain ⟨rfl, _, _⟩ := w_
  simpa using hs
 have hSg : g.Sh := hro.body.all r.body g hgm
 have hg4 := hSg.lens
 obtain ⟨N, hN⟩ : ∃ N : Int, r.arity + r.locals = N := ⟨_, rfl⟩
 rw [hN]
 have hN0 : 0 ≤ N ∧ N ≤ 1000 := by omega
 have hDb := Gl.cl_bnd q2.body e4
 have hqsz := hqo.size
 have hDl := hDb.1
 have hDm := hDb.2
 intro r112
 refine cut_intro 0 c rfl rfl (by omega) (by omega) ?_
 refine src_intro _ (hvcs 0 c (by omega) (by omega)) ?_
 refine gIn ?_ ?_ fun b1 c1 _ => ?_
 ·show (0 + _) * 24 ≤ _; simp; omega
 ·exact Nat.le_trans (m := 2000000000) (by simp; omega) (by decide)
 have hx0 : Rows μ4 1 ((cls.take c).map csD) (([] : List Value) ++ (vc.drop 0).take (c - 0)) := by
  have := (hvc.drop 0).take (c - 0)
  simpa [List.map_take] using this
 refine lFz (fun z : Nat × Option Nat × Nat × List Value × Mem => z.1 ≤ ds.length ∧ μ4.Le z.2.2.2.2 ∧ z.2.2.2.2 r19 = some (.cells #[.int .i64 N] 3 (0, 0)) ∧ Rows z.2.2.2.2 1 ((cls.take c ++ (ds.take z.1).map (unfC l a g N)).map csD) z.2.2.2.1)
  (fun (i, b, co, ys, μ') => ⟨[(2, .val (.int .i64 c)), (4, .loc 0 r4 0), (8, .loc 1 r8 0), (11, .val (.int .i64 k)), (12, .val (.slice pv.1 cls.length pv.2)), (14, .val (.int .i64 a)), (15, .loc 2 r15 0), (16, .loc 3 r16 0), (17, .val (.slice pd.1 ds.length pd.2)), (19, .val (.pointer (some ⟨r19, 0, none⟩))), (20, .row 5 b ys.length co), (117, .val (.slice pd.1 ds.length pd.2)), (118, .val (.int .i64 ds.length)), (119, .val (.int .i64 i))],
   [(0, some (.cells r4 [.val (.slice q.1 p.rels.length q.2)] 45)), (1, some (.cells r8 [.val (.slice none 0 0)] 45)), (2, some (.cells r15 (vals (g.cs pg)) 30)), (3, some (.cells r16 (vals (q2.cs qq)) 94)), (5, some (.row b co 28 1 ys))], 6, μ', Mem.nil⟩) (fun z => ds.length - z.1) [4] (fun (_, _, _, _, _) => ⟨rfl, rfl⟩)
  (fun μ5 hle5 hno5 hat5 => ⟨(0, b1, c1, ([] : List Value) ++ (vc.drop 0).take (c - 0), μ5), ⟨Nat.zero_le _, hle5, hat5, by simpa using hx0.mono hle5⟩, ⟨rfl, rfl, rfl, rfl, rfl, rfl, rfl, rfl, rfl, rfl, rfl, rfl, rfl, rfl, trivial⟩, ⟨rfl, rfl, rfl, rfl, rfl, trivial⟩, rfl, rfl⟩) ?_
 rintro ⟨i, b, co, ys, μ5⟩ ⟨hi, hle5, hat5, hrows⟩
 dsimp only at hi hle5 hat5 hrows
 have hyl := hrows.len
 simp only [List.length_map, List.length_append, List.length_take] at hyl
 refine ifd (fun hlt => ?_) (fun hlt => ?_)
 ·have w_ := aSo (l := ds) (i := i) (by omega)
  obtain ⟨d, hd⟩ := w_
  have w_ := cls_elem ((Cls.sl hDr).1.mono hle5) hd
  obtain ⟨adi, pi, heli, hri⟩ := w_
  have hdl := hDl d (mAt hd)
  have hds := csD_sl hri
  refine eIn heli ?_
  intro r123
  refine eIn (hell4.mono hle5) ?_
  refine cut_intro 0 a rfl rfl (by omega) (by omega) ?_
  refine src_intro _ (srcAt_mono (hvls 0 a (by omega) (by omega)) hle5) ?_
  refine gIn ?_ ?_ fun b2 c2 _ => ?_
  ·show (0 + _) * 72 ≤ _; simp; omega
  ·exact Nat.le_trans (m := 2000000000) (by simp; omega) (by decide)
  have hy0 : Rows μ5 4 ((l.take a).map Gl.d) (([] : List Value) ++ (vl.drop 0).take (a - 0)) := by
   have := (hvl.drop 0).take (a - 0)
   simpa [List.map_take] using this.mono hle5
  refine lFz (fun z : Nat × Option Nat × Nat × List Value × Mem => z.1 ≤ g.terms.length ∧ μ5.Le z.2.2.2.2 ∧ Rows z.2.2.2.2 4 ((l.take a ++ (eqsG N g.terms).take z.1).map Gl.d) z.2.2.2.1)
   (fun (j, b', co', zs, μ') => ⟨[(2, .val (.int .i64 c)), (4, .loc 0 r4 0), (8, .loc 1 r8 0), (11, .val (.int .i64 k)), (12, .val (.slice pv.1 cls.length pv.2)), (14, .val (.int .i64 a)), (15, .loc 2 r15 0), (16, .loc 3 r16 0), (17, .val (.slice pd.1 ds.length pd.2)), (19, .val (.pointer (some ⟨r19, 0, none⟩))), (20, .row 5 b ys.length co), (117, .val (.slice pd.1 ds.length pd.2)), (118, .val (.int .i64 ds.length)), (119, .val (.int .i64 i)), (22, .val (.slice pi.1 d.length pi.2)), (23, .row 6 b' zs.length co'), (132, .val (.slice pg.1.1 g.terms.length pg.1.2)), (133, .val (.int .i64 g.terms.length)), (134, .val (.int .i64 j))],
    [(0, some (.cells r4 [.val (.slice q.1 p.rels.length q.2)] 45)), (1, some (.cells r8 [.val (.slice none 0 0)] 45)), (2, some (.cells r15 (vals (g.cs pg)) 30)), (3, some (.cells r16 (vals (q2.cs qq)) 94)), (5, some (.row b co 28 1 ys)), (6, some (.row b' co' 30 4 zs))], 7, μ', Mem.nil⟩) (fun z => g.terms.length - z.1) [] (fun (_, _, _, _, _) => ⟨rfl, rfl⟩)
   ⟨(0, b2, c2, ([] : List Value) ++ (vl.drop 0).take (a - 0), μ5), ⟨Nat.zero_le _, Mem.Le.refl _, by simpa using hy0⟩, ⟨⟨rfl, rfl, rfl, rfl, rfl, rfl, rfl, rfl, rfl, rfl, rfl, rfl, rfl, rfl, rfl, rfl, rfl, rfl, rfl, trivial⟩, ⟨rfl, rfl, rfl, rfl, rfl, rfl, trivial⟩, rfl, rfl⟩⟩ ?_
  clear hy0
  rintro ⟨j, b3, c3, zs, μ6⟩ ⟨hj, hle6, hrows3⟩
  dsimp only at hj hle6 hrows3
  have hzl := hrows3.len
  simp only [List.length_map, List.length_append, List.length_take, eqsG_len] at hzl
  refine ifd (fun hlt3 => ?_) (fun hlt3 => ?_)
  ·have w_ := aSo (l := g.terms) (i := j) (by omega)
   obtain ⟨t, ht⟩ := w_
   have w_ := Tm.elem (hgts.mono (hle5.trans hle6)) ht
   obtain ⟨adt, pt, helt, hrt⟩ := w_
   refine eIn helt ?_
   intro r25
   refine ext_intro [.int .i64 N] rfl (box_at (hle6 _ _ hat5)) ?_
   refine num64 (by omega) (by omega) ?_
   refine cGv (variable_spec _) ?_
   intro r145 r147
   refine gIn ?_ ?_ fun b4 c4 _ => ?_
   ·show (zs.length + 1) * 72 ≤ _; omega
   ·exact Nat.le_trans (m := 100000000) (show zs.length + 1 ≤ _ by omega) (by decide)
   refine num64 (by omega) (by omega) ⟨[8], fun μ7 hle7 hno7 hat7 => ?_⟩
   have hE : RepV μ7 (eqG N j t).d _ := eqG_rep (Rows.sl hat7 (.cons (RepV.mono hle7 (varV_rep (N + j))) (Tm.d_n _) (.cons (RepV.mono hle7 hrt) (Tm.d_n _) .nil)) (show 2 ≤ maxLen by decide))
   refine ⟨(j + 1, b4, c4, _, μ7), ⟨by dsimp only; omega, hle6.trans hle7, ?_⟩, by dsimp only; omega, ⟨⟨rfl, rfl, rfl, rfl, rfl, rfl, rfl, rfl, rfl, rfl, rfl, rfl, rfl, rfl, rfl, rfl, rfl, rfl, rfl, trivial⟩, ⟨rfl, rfl, rfl, rfl, rfl, rfl, trivial⟩, rfl, rfl⟩⟩
   dsimp only
   rw [eqsG_take ht, ← List.append_assoc, List.map_append (l₂ := [eqG N j t])]
   exact (hrows3.mono hle7).append (Rows.one hE (Gl.d_n _))
  obtain rfl : j = g.terms.length := by omega
  rw [List.take_of_length_le (l := eqsG N g.terms) (by rw [eqsG_len]; omega)] at hrows3
  refine lIn (fun z : Nat × Option Nat × Nat × List Value × Mem => z.1 ≤ d.length ∧ μ6.Le z.2.2.2.2 ∧ Rows z.2.2.2.2 4 ((l.take a ++ eqsG N g.terms ++ (d.take z.1).map (Gl.put (shF N))).map Gl.d) z.2.2.2.1)
   (fun (j, b', co', zs, μ') => ⟨[(2, .val (.int .i64 c)), (4, .loc 0 r4 0), (8, .loc 1 r8 0), (11, .val (.int .i64 k)), (12, .val (.slice pv.1 cls.length pv.2)), (14, .val (.int .i64 a)), (15, .loc 2 r15 0), (16, .loc 3 r16 0), (17, .val (.slice pd.1 ds.length pd.2)), (19, .val (.pointer (some ⟨r19, 0, none⟩))), (20, .row 5 b ys.length co), (117, .val (.slice pd.1 ds.length pd.2)), (118, .val (.int .i64 ds.length)), (119, .val (.int .i64 i)), (23, .row 6 b' zs.length co'), (150, .val (.slice pi.1 d.length pi.2)), (151, .val (.int .i64 d.length)), (152, .val (.int .i64 j))],
    [(0, some (.cells r4 [.val (.slice q.1 p.rels.length q.2)] 45)), (1, some (.cells r8 [.val (.slice none 0 0)] 45)), (2, some (.cells r15 (vals (g.cs pg)) 30)), (3, some (.cells r16 (vals (q2.cs qq)) 94)), (5, some (.row b co 28 1 ys)), (6, some (.row b' co' 30 4 zs))], 7, μ', Mem.nil⟩) (fun z => d.length - z.1)
   (0, b3, c3, zs, μ6) ⟨Nat.zero_le _, Mem.Le.refl _, by simpa using hrows3⟩ (fun (_, _, _, _, _) => ⟨rfl, rfl⟩) ⟨⟨rfl, rfl, rfl, rfl, rfl, rfl, rfl, rfl, rfl, rfl, rfl, rfl, rfl, rfl, rfl, rfl, rfl, rfl, trivial⟩, ⟨rfl, rfl, rfl, rfl, rfl, rfl, trivial⟩, rfl, rfl⟩ ?_
  clear hrows3
  rintro ⟨j, b5, c5, ws, μ7⟩ ⟨hj2, hle7, hrows4⟩
  dsimp only at hj2 hle7 hrows4
  have hwl := hrows4.len
  simp only [List.length_map, List.length_append, List.length_take, eqsG_len] at hwl
  refine ifd (fun hlt4 => ?_) (fun hlt4 => ?_)
  ·have w_ := aSo (l := d) (i := j) (by omega)
   obtain ⟨y, hy⟩ := w_
   have w_ := Gl.elem (hds.mono (hle6.trans hle7)) hy
   obtain ⟨ady, py, hely, hry⟩ := w_
   refine eIn hely ?_
   intro r27
   have hyS : y.Sh := hqo.body.all q2.body y (Gl.cl_all q2.body e4 d (mAt hd) y (mAt hy)).1
   refine cPl (goalWith_spec y (unfolded1_maps hN0 ((hle6.trans hle7) _ _ hat5)) hry hyS) fun v8 μ8 hle8 hR8 => ?_
   rw [Gl.withO_all (fun _ => rfl)] at hR8
   obtain ⟨tv, rfl, htv⟩ := hR8
   have w_ := Gl.invV htv.rep
   obtain ⟨q8, rfl⟩ := w_
   intro r28 r164
   refine gIn ?_ ?_ fun b4 c4 _ => ?_
   ·show (ws.length + 1) * 72 ≤ _; omega
   ·exact Nat.le_trans (m := 100000000) (show ws.length + 1 ≤ _ by omega) (by decide)
   refine num64 (by omega) (by omega) ⟨(j + 1, b4, c4, _, μ8), ⟨by dsimp only; omega, hle7.trans hle8, ?_⟩, by dsimp only; omega, ⟨⟨rfl, rfl, rfl, rfl, rfl, rfl, rfl, rfl, rfl, rfl, rfl, rfl, rfl, rfl, rfl, rfl, rfl, rfl, trivial⟩, ⟨rfl, rfl, rfl, rfl, rfl, rfl, trivial⟩, rfl, rfl⟩⟩
   dsimp only
   rw [List.take_add_one, hy, Option.toList_some, List.map_append (f := Gl.put (shF N)), ← List.append_assoc, List.map_append (f := Gl.d)]
   exact (hrows4.mono hle8).append (Rows.one htv.rep (Gl.d_n _))
  obtain rfl : j = d.length := by omega
  rw [List.take_length] at hrows4
  have hle57 := hle5.trans (hle6.trans hle7)
  refine eIn (hell4.mono hle57) ?_
  refine num64 (by omega) (by omega) ?_
  refine cut_intro (a + 1) l.length rfl rfl (by omega) (by omega) ?_
  refine src_intro _ (srcAt_mono (hvls (a + 1) l.length (by omega) (Nat.le_refl _)) hle57) ?_
  refine gIn ?_ ?_ fun b6 c6 _ => ?_
  ·show (ws.length + _) * 72 ≤ _; simp; omega
  ·exact Nat.le_trans (m := 2000000000) (by simp; omega) (by decide)
  have hz0 : Rows μ7 4 ((unfC l a g N d).map Gl.d) (ws ++ (vl.drop (a + 1)).take (l.length - (a + 1))) := by
   have h1 := ((hvl.drop (a + 1)).take (l.length - (a + 1))).mono hle57
   have h2 := hrows4.append h1
   have e5 : ((l.map Gl.d).drop (a + 1)).take (l.length - (a + 1)) = (l.drop (a + 1)).map Gl.d := by
    rw [List.take_of_length_le (by simp), List.map_drop]
   rw [e5, ← List.map_append] at h2
   exact h2
  intro μ8 hle8 hno8 hat8 r177
  refine gIn ?_ ?_ fun b7 c7 _ => ?_
  ·show (ys.length + 1) * 24 ≤ _; omega
  ·exact Nat.le_trans (m := 100000000) (show ys.length + 1 ≤ _ by omega) (by decide)
  have hC : RepV μ8 (csD (unfC l a g N d)) _ := Rows.sl hat8 (hz0.mono hle8) (Nat.le_trans (m := 2000000000) (by simp; omega) (by decide))
  refine num64 (by omega) (by omega) ⟨[], ⟨(i + 1, b7, c7, _, μ8), ⟨by dsimp only; omega, hle57.trans hle8, (hle6.trans (hle7.trans hle8)) _ _ hat5, ?_⟩, by dsimp only; omega, ⟨⟨rfl, rfl, rfl, rfl, rfl, rfl, rfl, rfl, rfl, rfl, rfl, rfl, rfl, rfl, trivial⟩, ⟨rfl, rfl, rfl, rfl, rfl, trivial⟩, rfl, rfl⟩⟩⟩
  dsimp only
  rw [List.take_add_one, hd, Option.toList_some, List.map_append (f := unfC l a g N), ← List.append_assoc, List.map_append (f := csD)]
  exact (hrows.mono ((hle6.trans (hle7.trans hle8)))).append (Rows.one hC rfl)
 obtain rfl : i = ds.length := by omega
 rw [List.take_length] at hrows
 refine num64 (by omega) (by omega) ?_
 refine cut_intro (c + 1) cls.length rfl rfl (by omega) (by omega) ?_
 refine src_intro _ (srcAt_mono (hvcs (c + 1) cls.length (by omega) (Nat.le_refl _)) hle5) ?_
 refine gIn ?_ ?_ fun b8 c8 _ => ?_
 ·show (ys.length + _) * 24 ≤ _; simp; omega
 ·exact Nat.le_trans (m := 2000000000) (by simp; omega) (by decide)
 obtain ⟨X, hXe⟩ : ∃ X : UnfD, X = ⟨k, r, cls, c, l, a, g, q2⟩ := ⟨_, rfl⟩
 rw [← hXe] at hAt
 have hLs : X.ls ds = cls.take c ++ ds.map (unfC l a g N) ++ cls.drop (c + 1) := by rw [hXe, ← hN]; rfl
 have hall0 : Rows μ5 1 ((X.ls ds).map csD) (ys ++ (vc.drop (c + 1)).take (cls.length - (c + 1))) := by
  have h1 := ((hvc.drop (c + 1)).take (cls.length - (c + 1))).mono hle5
  have h2 := hrows.append h1
  have e5 : ((cls.map csD).drop (c + 1)).take (cls.length - (c + 1)) = (cls.drop (c + 1)).map csD := by
   rw [List.take_of_length_le (by simp), List.map_drop]
  rw [e5, ← List.map_append, ← hLs] at h2
  exact h2
 have hLl : (X.ls ds).length ≤ 1000 := by
  rw [hLs]; simp only [List.length_append, List.length_take, List.length_map, List.length_drop]; omega
 have hLc : ∀ z ∈ X.ls ds, z.length ≤ 1000 := fun z hz => by
  rw [hLs] at hz
  rcases List.mem_append.1 hz with hz | hz
  ·rcases List.mem_append.1 hz with hz | hz
   ·have := hbnd.1 z (List.mem_of_mem_take hz); omega
   ·have w_ := List.mem_map.1 hz
    obtain ⟨d, hd, rfl⟩ := w_
    have := hDl d hd
    rw [unfC]
    simp only [List.length_append, List.length_take, List.length_map, List.length_drop, eqsG_len]; omega
  ·have := hbnd.1 z (List.mem_of_mem_drop hz); omega
 have hall0l := hall0.len
 rw [List.length_map] at hall0l
 refine call_frz [5] ?_
 intro μ6 hle6 hno6 hat6
 have hLr6 : Cls μ6 (X.ls ds) _ := Rows.sl hat6 (hall0.mono hle6) (Nat.le_trans (m := 2000000000) (by omega) (by decide))
 have hCG := impl_ClauseGoal_spec (cap := c8) (Cls.sl hLr6).1 (by omega) (fun z hz => by have := hLc z hz; omega)
 rw [hall0l] at hCG
 refine call_go hCG fun v7 μ7 hle7 hR7 => ?_
 have hle07 := hle1.trans (hle14.trans (hle5.trans (hle6.trans hle7)))
 by_cases hok : CgOk (X.ls ds)
 rotate_left
 ·rw [cgO, if_neg hok] at hR7
  obtain rfl := hR7
  intro r30
  refine iIn (fun _ => ?_) (fun h => nomatch h)
  refine rPl ?_
  rw [unfO_bad hAt fun ds' hd => by
   have h1 := hd.1
   rw [hXe] at h1
   rw [show q2.body.cl = some ds' from h1] at e4
   cases e4; exact hok hd.2.1]
  rfl
 rw [cgO, if_pos hok] at hR7
 obtain ⟨tv, rfl, htv⟩ := hR7
 have w_ := Gl.invV htv.rep
 obtain ⟨q7, rfl⟩ := w_
 intro r30
 refine iIn (fun h => nomatch h) (fun _ => ?_)
 have hne : p.rels ≠ [] := fun e => by rw [e] at hr; cases hr
 refine cOw (copyProgram_own (RepV.mono hle07 hp0) hpo hne) fun v8 μ8 H8 hle8 hap8 hR8 => ?_
 obtain ⟨rb, rc, rty, us, rfl, hrow, hgr⟩ := hR8
 have hul := hgr.len
 rw [List.length_map] at hul
 have hkl := (List.getElem?_eq_some_iff.1 hr).1
 intro r32
 refine eIn (helr.mono (hle14.trans (hle5.trans (hle6.trans (hle7.trans hle8))))) ?_
 have hqlo0 := hqo.lo0
 have hqlo8 := hqo.lo8
 have hqar0 := hqo.ar0
 have hqar4 := hqo.ar4
 refine num64 (by omega) (by omega) ?_
 refine num64 (by omega) (by omega) ?_
 have w_ := aSo (l := us) (i := k) (by omega)
 obtain ⟨u, hu⟩ := w_
 have hz : ∀ y ∈ us, (vcells y).length = 7 ∧ ∀ u ∈ vcells y, u.oneCell' = true := by
  obtain ⟨_, _, _, _, hz, _⟩ := hrow
  exact hz
 have w_ := hgr.at hz (k := k) (show (p.rels.map Rl.d)[k]? = some r.d by simp [hr]) hu
 obtain ⟨go, hgo⟩ := w_
 have w_ := Rl.ownR hgo
 obtain ⟨pp, hpp, -⟩ := w_
 obtain ⟨LL, hLL⟩ : ∃ LL : Int, r.locals + q2.arity + q2.locals = LL := ⟨_, rfl⟩
 rw [hLL]
 refine ptr_intro ⟨rb, 0, none⟩ rfl (by omega) (by omega) ?_
 refine sto_row (k := k) (j := 2) (x := u) (.agg #[.string r.name, .int .i64 r.arity, .int .i64 LL, .int .i64 r.body.kind, .string r.body.name, .slice pp.1.1 r.body.terms.length pp.1.2, .slice pp.2.1 r.body.goals.length pp.2.2]) hrow hu (by simp [Addr.add_lit']) (by rw [hpp]; rfl) (show 2 + 1 ≤ 7 by decide) (by simp [Value.oneCell']) fun o1 hrow1 => ?_
 have hap9 := hap8.set (o := o1) (apartB hrow hap8 (.inl rfl))
 have hu1 : (us.set k (Value.agg #[.string r.name, .int .i64 r.arity, .int .i64 LL, .int .i64 r.body.kind, .string r.body.name, .slice pp.1.1 r.body.terms.length pp.1.2, .slice pp.2.1 r.body.goals.length pp.2.2]))[k]? = some _ := List.getElem?_set_self (by omega)
 refine ptr_intro ⟨rb, 0, none⟩ rfl (by omega) (by omega) ?_
 refine sto_row (k := k) (j := 3) (.agg (Value.string r.name :: .int .i64 r.arity :: .int .i64 LL :: (cgG (X.ls ds)).cs q7).toArray) hrow1 hu1 (by simp [Addr.add_lit']) rfl (show 3 + 4 ≤ 7 by decide) (by simp [Value.oneCell']) fun o2 hrow2 => ?_
 have hap10 := hap9.set (o := o2) (apartB hrow1 hap9 (.inl rfl))
 rw [List.set_set] at hrow2
 have hXpg : X.pg p ds = ⟨p.rels.set k ⟨r.name, r.arity, LL, cgG (X.ls ds)⟩⟩ := by rw [UnfD.pg, hXe, ← hLL]
 have hnew : Fresh μ μ7 (Rl.mk r.name r.arity LL (cgG (X.ls ds))).d (.agg (Value.string r.name :: .int .i64 r.arity :: .int .i64 LL :: (cgG (X.ls ds)).cs q7).toArray) := by
  rw [Rl.d_eq]
  have h1 := FreshS.st (FreshS.str (n := r.name) (FreshS.int (n := r.arity) (FreshS.int (n := LL) (FreshS.cons htv hle7 (Mem.Le.refl _) FreshS.nil))))
  exact h1.mono (hle1.trans (hle14.trans (hle5.trans hle6))) (Mem.Le.refl _)
 have hgr2 := hgr.set hz (k := k) (by omega) hnew hle07 hle8 (Rl.d_n _) ⟨rfl, by simp [vcells, Value.oneCell', Gl.cs]⟩
 rw [← List.map_set] at hgr2
 have hrow3 : RowO ((H8.set rb o1).set rb o2) rb rc rty 7 (us.set k (.agg (Value.string r.name :: .int .i64 r.arity :: .int .i64 LL :: (cgG (X.ls ds)).cs q7).toArray)) := hrow2
 have hap11 : Apart μ8 ((H8.set rb o1).set rb o2) := hap10
 generalize hHH : (H8.set rb o1).set rb o2 = HH at hrow3 hap11
 have hb9 : ∀ μ', Apart μ' HH → μ' rb = none := fun μ' k => k.symm rb (by
  obtain ⟨cs, hc, _⟩ := hrow3
  rw [hc]; simp)
 have hF : ∀ μ', μ8.Le μ' → Apart μ' HH → Fresh μ (μ'.join HH) (X.pg p ds).d (.agg #[.slice (some ⟨rb, 0, none⟩) us.length rc]) := fun μ' hl hA => by
  have k := (hgr2.mono hl).fresh (b := some rb) (cap := rc) ((hle07.trans hle8).trans hl) (Mem.le_join μ' HH) (fun r0 hr0 => by cases hr0; exact hb9 μ' hA) (hrow3.rowAt (Mem.le_join_right hA)) hrow3.len
  rw [List.length_set] at k
  rw [hXpg, Pg.d_eq]
  exact (FreshS.st (FreshS.cons k ((hle07.trans hle8).trans (hl.trans (Mem.le_join _ _))) (Mem.Le.refl _) FreshS.nil)).mono (Mem.Le.refl _) (Mem.Le.refl _)
 have hRP := (hF μ8 (Mem.Le.refl _) hap11).rep
 refine cOw (SpecH.lend hap11 (impl_ProgramOk_spec hRP)) fun v9 μ9 H9 hle9 hap12 hR9 => ?_
 obtain ⟨rfl, μ10, rfl, hle10, e9⟩ := hR9
 refine ifnd (fun hbad => ?_) (fun hgood => ?_)
 ·refine rPl ?_
  rw [unfO_bad hAt fun ds' hd => by
   have h1 := hd.1
   rw [hXe] at h1
   rw [show q2.body.cl = some ds' from h1] at e4
   cases e4; exact hbad hd.2.2]
  rfl
 ·refine ret_own _ Mem.nil (Parts.nil_right _) ?_
  have hcl : X.q.body.cl = some ds := by rw [hXe]; exact e4
  rw [unfO_some hAt ⟨hcl, hok, hgood⟩]
  exact ⟨_, rfl, hF μ9 hle9 hap12⟩
end
end Go.Vx
namespace Go.Vx
open Go.Proofs Classical
structure FindAt (p : Pg) (nm : ByteArray) (clause : Int) (k : Nat) (r : Rl) (cls : List (List Gl)) (c : Nat) (l : List Gl) : Prop where
 find : findR p nm = k
 rel : p.rels[k]? = some r
 cl : r.body.cl = some cls
 cc : clause = c
 cls : cls[c]? = some l
theorem rl_body_wd {p : Pg} (hw : p.d.wd) {i : Nat} {r : Rl} (h : p.rels[i]? = some r) : r.d.wd ∧ r.body.d.wd := by
 have h1 : D.wds (p.rels.map Rl.d) := by rw [Pg.d_eq] at hw; exact hw.1
 have h2 := D.wds_mem h1 _ (List.mem_map_of_mem (mAt h))
 refine ⟨h2, ?_⟩
 rw [Rl.d_eq] at h2; exact h2.2.2.2.1
theorem Gl.eta (g : Gl) : g = .mk g.kind g.name g.terms g.goals := by cases g; rfl
theorem Gl.put_congr {f f' : Int → Option T} : ∀ g : Gl, (∀ x ∈ g.all, ∀ t ∈ x.terms, ∀ n ∈ t.toT.vars, f n = f' n) → g.put f = g.put f' :=
 Gl.ind fun g ih h => by
  rw [Gl.eta (g.put f), Gl.eta (g.put f'), Gl.put_kind, Gl.put_kind, Gl.put_name, Gl.put_name, Gl.put_terms, Gl.put_terms, Gl.put_goals, Gl.put_goals]
  congr 1
  ·exact List.map_congr_left fun t ht => by
    rw [T.subst_congrD t.toT fun n hn => by rw [h g (Gl.all_self g) t ht n hn]]
  ·exact List.map_congr_left fun x hx => ih x hx fun y hy => h y (Gl.all_sub hx hy)
theorem Gl.all_thru : ∀ (g : Gl) {x y : Gl}, y ∈ g.all → x ∈ y.all → x ∈ g.all :=
 Gl.ind fun g ih x y hy hx => by
  rw [Gl.all_eq] at hy
  rcases List.mem_cons.1 hy with rfl | hy
  ·exact hx
  ·have w_ := List.mem_flatMap.1 hy
   obtain ⟨z, hz, hy⟩ := w_
   exact Gl.all_sub hz (ih z hz hy hx)
theorem put_sh_vars {p : Pg} {j : Nat} {q2 : Rl} (hqo : RelOk p j q2) {N : Int} (h0 : 0 ≤ N) (h1 : N ≤ 1000) {y : Gl} (hy : y ∈ q2.body.all) : (y.put (shF N)).d.wd := by
 have hl := hqo.lo8
 have ha := hqo.ar4
 have e : y.put (shF N) = y.put fun n => if 0 ≤ n ∧ n ≤ 1000 then some (.var (n + N)) else none := Gl.put_congr y fun x hx t ht n hn => by
  have hxm := Gl.all_thru q2.body hy hx
  have hts := (hqo.body.all q2.body x hxm).top.tm t ht
  have w_ := hts.lift
  obtain ⟨z, hz, rfl⟩ := w_
  have h2 := hqo.vars n (List.mem_flatMap.2 ⟨x, hxm, by rw [Gl.tvars]; exact List.mem_flatMap.2 ⟨_, List.mem_map_of_mem ht, hn⟩⟩)
  rw [T.toT_tm] at hn
  have h3 := (T.good_vars hz.1 n hn).1
  rw [shF, if_pos ⟨h3, by omega⟩]
 rw [e]
 refine Gl.put_Sh_wd (fun n z hz => ?_) (hqo.body.all q2.body y hy)
 split at hz
 ·cases hz
  show 0 ≤ n + N ∧ n + N ≤ 100000
  omega
 ·cases hz
theorem eqG_wd {N : Int} (h0 : 0 ≤ N) (h1 : N ≤ 1000) {i : Nat} (hi : i ≤ 1000) {t : Tm} (ht : t.d.wd) : (eqG N i t).d.wd := by
 refine Gl.wd_mk ⟨show (-9223372036854775808 : Int) ≤ 2 by decide, show (2 : Int) ≤ 9223372036854775807 by decide⟩ (Nat.zero_le _) (fun x hx => ?_) fun x hx => absurd hx List.not_mem_nil
 rcases List.mem_cons.1 (show x ∈ [(T.var (N + i)).tm, t] from hx) with rfl | hx
 ·exact T.good_wd (x := T.var (N + i)) ⟨by omega, by omega⟩
 ·rw [List.mem_singleton.1 hx]; exact ht
theorem unf_wd {p : Pg} {k j : Nat} {r q2 : Rl} {cls ds L : List (List Gl)} {c a : Nat} {l : List Gl} {g : Gl} {N : Int} (hw : p.d.wd) (hr : p.rels[k]? = some r) (e : r.body.cl = some cls) (hl : cls[c]? = some l) (hg : l[a]? = some g) (_hq2 : p.rels[j]? = some q2) (hqo : RelOk p j q2) (h0 : 0 ≤ N) (h1 : N ≤ 1000)
  (hLs : L = cls.take c ++ ds.map (unfC l a g N) ++ cls.drop (c + 1)) (hD : ∀ d ∈ ds, ∀ y ∈ d, y ∈ q2.body.all) (hg4 : g.terms.length ≤ 1000) : ∀ z ∈ L, ∀ y ∈ z, y.d.wd := fun z hz y hy => by
 have hbw := Gl.all_wd r.body (rl_body_wd hw hr).2
 have hcls : ∀ z ∈ cls, ∀ y ∈ z, y.d.wd := fun z hz y hy => hbw y (Gl.cl_all r.body e z hz y hy).1
 rw [hLs] at hz
 rcases List.mem_append.1 hz with hz | hz
 ·rcases List.mem_append.1 hz with hz | hz
  ·exact hcls z (List.mem_of_mem_take hz) y hy
  ·have w_ := List.mem_map.1 hz
   obtain ⟨d, hd, rfl⟩ := w_
   rw [unfC] at hy
   rcases List.mem_append.1 hy with hy | hy
   ·rcases List.mem_append.1 hy with hy | hy
    ·rcases List.mem_append.1 hy with hy | hy
     ·exact hcls l (mAt hl) y (List.mem_of_mem_take hy)
     ·have w_ := List.mem_iff_getElem?.1 hy
      obtain ⟨i, hi⟩ := w_
      rw [eqsG, List.getElem?_mapIdx] at hi
      have w_ := Option.map_eq_some_iff.1 hi
      obtain ⟨t, ht, rfl⟩ := w_
      have hil := (List.getElem?_eq_some_iff.1 ht).1
      exact eqG_wd h0 h1 (by omega) ((Gl.wd_at (hcls l (mAt hl) g (mAt hg))).2.2.1 t (mAt ht))
    ·have w_ := List.mem_map.1 hy
     obtain ⟨y', hy', rfl⟩ := w_
     exact put_sh_vars hqo h0 h1 (hD d hd y' hy')
   ·exact hcls l (mAt hl) y (List.mem_of_mem_drop hy)
 ·exact hcls z (List.mem_of_mem_drop hz) y hy
section
variable {μ : Mem}
set_option maxHeartbeats 2000000 in
theorem l33Find_spec {p : Pg} {nm : ByteArray} {clause call : Int} {v : Value} (hp : RepV μ p.d v) (hw : p.d.wd) (hc0 : InR clause) :
  Spec Tryz.prog 81 [v, .string nm, .int .i64 clause, .int .i64 call] μ fun v μ' => (∃ k r cls c l tv, FindAt p nm clause k r cls c l ∧ p.Ok ∧ v = .tuple #[tv, .int .i64 (callI l call), .bool (decide (0 ≤ callI l call))] ∧ Cls μ' cls tv) ∨ ((∀ x, ¬ UnfAt p nm clause call x) ∧ v = .tuple #[.slice none 0 0, .int .i64 0, .bool false]) := by
 have hp0 := hp
 have w_ := Pg.inv hp
 obtain ⟨q, rfl, hrl⟩ := w_
 refine Spec.mk Tryz.func81 (by kernel_rfl) ?_
 intro r4
 refine cPl (spec_FindRel_spec hp0 hw) fun v1 μ1 hle1 hR => ?_
 obtain rfl := hR
 refine ifd (fun h => ?_) (fun h => ?_)
 ·refine rPl (.inr ⟨fun x hx => by have := hx.find; omega, rfl⟩)
 have w_ := Int.eq_ofNat_of_zero_le (show 0 ≤ findR p nm by omega)
 obtain ⟨k, hk⟩ := w_
 have hpo : p.Ok := Classical.byContradiction fun e => by rw [findR, if_neg e] at h; exact h (by decide)
 have hfind : findR p nm = relAt p nm := by rw [findR, if_pos hpo]
 have w_ := relAt_get (p := p) (s := nm) (by omega)
 obtain ⟨k', r, hk', hr, -⟩ := w_
 obtain rfl : k = k' := by omega
 have hro := hpo.2 _ r hr
 have w_ := Rl.elemA (hrl.mono hle1) hr
 obtain ⟨adr, qr, helr, hrr, hbody⟩ := w_
 have hbody : RepV μ1 r.body.d (.agg (r.body.cs qr).toArray) := hbody
 have hX : ∀ x, UnfAt p nm clause call x → x.k = k ∧ x.r = r := fun x hx => by
  have h1 := hx.find
  have h2 : x.k = k := by omega
  have h3 := hx.rel
  rw [h2, hr] at h3
  exact ⟨h2, (Option.some.inj h3).symm⟩
 rw [hk]
 refine eIn helr ?_
 refine cPl (ClausesOf_spec hbody (rl_body_wd hw hr).2 ⟨hro.body, by have := hro.size; omega⟩) fun v2 μ2 hle2 hR2 => ?_
 obtain ⟨o2, e⟩ : ∃ o, r.body.cl = o := ⟨_, rfl⟩
 rw [e] at hR2
 match o2, e, hR2 with
 | none, e, hR2 =>
  obtain rfl := hR2
  refine iIn (fun _ => ?_) (fun h => nomatch h)
  refine rPl (.inr ⟨fun x hx => (by have h1 := hx.cl; rw [(hX x hx).2, e] at h1; cases h1), rfl⟩)
 | some cls, e, hR2 =>
 obtain ⟨tv, rfl, hLr⟩ := hR2
 obtain ⟨pv, rfl⟩ := hLr.inv
 have hXc : ∀ x, UnfAt p nm clause call x → x.cls = cls := fun x hx => by
  have h1 := hx.cl
  rw [(hX x hx).2, e] at h1
  exact (Option.some.inj h1).symm
 refine iIn (fun h => nomatch h) (fun _ => ?_)
 have hcll := (Gl.cl_bnd r.body e).2
 refine num64 (by omega) (by omega) ?_
 refine cGv (l01In_spec _ _ _ _) ?_
 refine ifnd (fun h1 => ?_) (fun h1 => ?_)
 ·refine rPl (.inr ⟨fun x hx => ?_, rfl⟩)
  have h3 := hx.cc
  have h4 := (List.getElem?_eq_some_iff.1 hx.cls).1
  rw [hXc x hx] at h4; omega
 have w_ := Int.eq_ofNat_of_zero_le (show 0 ≤ clause by omega)
 obtain ⟨c, rfl⟩ := w_
 have w_ := aSo (l := cls) (i := c) (by omega)
 obtain ⟨l, hl⟩ := w_
 have hsl := (Cls.sl hLr).1
 have w_ := cls_elem hsl hl
 obtain ⟨adl, pl, hell, hrll⟩ := w_
 have hls := csD_sl hrll
 have hll := (Gl.cl_bnd r.body e).1 l (mAt hl)
 have hsz := hro.size
 refine eIn hell ?_
 refine cPl (l33At_spec (call := call) hls (by omega)) fun v3 μ3 hle3 hR3 => ?_
 obtain ⟨rfl, e3⟩ := hR3
 obtain rfl := e3.symm
 exact rPl (.inl ⟨k, r, cls, c, l, _, ⟨hk, hr, e, rfl, hl⟩, hpo, rfl, hLr⟩)
set_option maxHeartbeats 4000000 in
set_option maxRecDepth 20000 in
theorem spec_UnfoldCall_spec {p : Pg} {nm : ByteArray} {clause call : Int} {v : Value} (hp : RepV μ p.d v) (hw : p.d.wd) (hc0 : InR clause) :
  Spec Tryz.prog 27 [v, .string nm, .int .i64 clause, .int .i64 call] μ fun v μ' => optP (fun y tv => RepV μ' y.d tv) ((unfO p nm clause call).map Prod.fst) v := by
 have hp0 := hp
 have w_ := Pg.inv hp
 obtain ⟨q, rfl, hrl⟩ := w_
 refine Spec.mk Tryz.func27 (by kernel_rfl) ?_
 intro r4 r8
 refine cPl (l33Find_spec (call := call) hp0 hw hc0) fun v1 μ1 hle1 hR => ?_
 rcases hR with ⟨k, r, cls, c, l, tv, hF, hpo, rfl, hLr⟩ | ⟨hno, rfl⟩
 rotate_left
 ·refine iIn (fun _ => ?_) (fun h => nomatch h)
  refine rPl ?_
  rw [unfO_none hno]; rfl
 obtain ⟨hk, hr, e, rfl, hl⟩ := hF
 obtain ⟨pv, rfl⟩ := hLr.inv
 have hX : ∀ x, UnfAt p nm c call x → x.l = l := fun x hx => by
  have h1 := hx.find
  have h2 : x.k = k := by omega
  have h3 := hx.rel
  rw [h2, hr] at h3
  have h4 := hx.cl
  rw [← Option.some.inj h3, e] at h4
  have h5 := hx.cls
  rw [← Option.some.inj h4, show x.c = c by have := hx.cc; omega, hl] at h5
  exact (Option.some.inj h5).symm
 refine ifnd (fun hneg => ?_) (fun hpos => ?_)
 ·refine rPl ?_
  rw [unfO_none fun x hx => by
   have h1 := hx.pos
   have h2 := hx.call0
   rw [hX x hx] at h1
   apply hneg
   rw [callI, if_neg (by omega), h1]
   exact Int.natCast_nonneg _]
  rfl
 have hcall : 0 ≤ call := by
  refine Classical.byContradiction fun h => ?_
  rw [callI, if_pos (by omega)] at hpos
  exact absurd hpos (by decide)
 have w_ := Int.eq_ofNat_of_zero_le hcall
 obtain ⟨kc, rfl⟩ := w_
 obtain ⟨oa, ea⟩ : ∃ o, callIdx l kc = o := ⟨_, rfl⟩
 have hcI : callI l kc = placeI oa := by rw [callI, if_neg (by omega), Int.toNat_natCast, ea]
 match oa, ea, hcI with
 | none, ea, hcI => rw [hcI] at hpos; exact absurd hpos (by decide)
 | some a, ea, hcI =>
 rw [show callI l kc = (a : Int) from hcI]
 have hro := hpo.2 _ r hr
 have har0 := hro.ar0
 have har4 := hro.ar4
 have hlo0 := hro.lo0
 have hlo8 := hro.lo8
 have hfind : findR p nm = relAt p nm := by rw [findR, if_pos hpo]
 refine cGv (l14Find_spec (s := nm) (hp0.mono hle1)) ?_
 rw [show relAt p nm = (k : Int) by omega]
 have hsl := (Cls.sl hLr).1
 have w_ := cls_elem hsl hl
 obtain ⟨adl, pl, hell, hrll⟩ := w_
 have hls := csD_sl hrll
 have hbnd := Gl.cl_bnd r.body e
 have hsz := hro.size
 have hll := hbnd.1 l (mAt hl)
 have hcll := hbnd.2
 have hcl := (List.getElem?_eq_some_iff.1 hl).1
 refine eIn hell ?_
 have w_ := callIdx_at ea
 obtain ⟨g, hg, h9⟩ := w_
 have w_ := Gl.elem hls hg
 obtain ⟨adg, pg, helg, hrg⟩ := w_
 have hal := (List.getElem?_eq_some_iff.1 hg).1
 have hgm : g ∈ r.body.all := (Gl.cl_all r.body e l (mAt hl) g (mAt hg)).1
 have w_ := hro.calls.all g hgm h9
 obtain ⟨j, q2, hj, hq2, harq⟩ := w_
 refine eIn helg ?_
 refine cGv (l14Find_spec (s := g.name) (hp0.mono hle1)) ?_
 rw [hj]
 have w_ := Rl.elemA (hrl.mono hle1) hq2
 obtain ⟨adq, qq, helq, hrq, hbodyq⟩ := w_
 have hbodyq : RepV μ1 q2.body.d (.agg (q2.body.cs qq).toArray) := hbodyq
 have hqo := hpo.2 _ q2 hq2
 refine eIn helq ?_
 intro r15
 have w_ := Rl.elemA (hrl.mono hle1) hr
 obtain ⟨adr, qr, helr, hrr, hbody⟩ := w_
 refine eIn helr ?_
 refine eIn helr ?_
 refine num64 (by omega) (by omega) ?_
 obtain ⟨N, hN⟩ : ∃ N : Int, r.arity + r.locals = N := ⟨_, rfl⟩
 rw [hN]
 have hN0 : 0 ≤ N ∧ N ≤ 1000 := by omega
 have hAt : UnfAt p nm c kc ⟨k, r, cls, c, l, a, g, q2⟩ := ⟨hk, hr, e, rfl, hl, by omega, by rw [Int.toNat_natCast]; exact ea, hg, j, hj, hq2⟩
 refine cPl (ClausesOf_spec hbodyq (rl_body_wd hw hq2).2 ⟨hqo.body, by have := hqo.size; omega⟩) fun v4 μ4 hle4 hR4 => ?_
 obtain ⟨ds, gd, tv, rfl, hDr, hgd, hDb⟩ : ∃ ds gd tv, v4 = .tuple #[tv, .bool gd] ∧ Cls μ4 ds tv ∧ ((gd = true ∧ q2.body.cl = some ds) ∨ (gd = false ∧ q2.body.cl = none)) ∧ ((∀ c ∈ ds, c.length ≤ 60 ∧ ∀ x ∈ c, x ∈ q2.body.all) ∧ ds.length ≤ 64) := by
  have hqsz := hqo.size
  cases e4 : q2.body.cl with
  | none =>
   rw [e4] at hR4
   exact ⟨[], false, _, hR4, ⟨none, 0, rfl, ⟨Nat.zero_le _, Nat.zero_le _⟩, (fun _ h => nomatch h), .inl rfl⟩, .inr ⟨rfl, rfl⟩, (fun c h => absurd h (List.not_mem_nil)), Nat.zero_le _⟩
  | some ds =>
   rw [e4] at hR4
   obtain ⟨tv, h1, h2⟩ := hR4
   have hb := Gl.cl_bnd q2.body e4
   exact ⟨ds, true, tv, h1, h2, .inl ⟨rfl, rfl⟩, fun c hc => ⟨by have := hb.1 c hc; omega, fun x hx => (Gl.cl_all q2.body e4 c hc x hx).1⟩, hb.2⟩
 obtain ⟨pd, rfl⟩ := hDr.inv
 have hDm := hDb.2
 have hLr4 := RepV.mono hle4 hLr
 have hell4 := hell.mono hle4
 have hrll4 := RepV.mono hle4 hrll
 have hrg4 := RepV.mono hle4 hrg
 have helg4 := helg.mono hle4
 have w_ := Rep.src hLr4
 obtain ⟨vc, hvc, hvcl, hvcc, hvcs⟩ := w_
 have w_ := Rep.src (ds := l.map Gl.d) hrll4
 obtain ⟨vl, hvl, hvll, hvlc, hvls⟩ := w_
 have hgT := Gl.termsW hrg4
 have hgts : Sl μ4 4 pg.1.1 g.terms.length (g.terms.map Tm.d) := by
  have w_ := Rep.sl (xs := g.terms.map Tm.d) hgT
  obtain ⟨b', c', e1, hs⟩ := w_
  have w_ := Value.slice.inj e1
  obtain ⟨rfl, _, _⟩ := w_
  simpa using hs
 have hSg : g.Sh := hro.body.all r.body g hgm
 have hg4 := hSg.lens
 intro r82
 refine cut_intro 0 c rfl rfl (by omega) (by omega) ?_
 refine src_intro _ (hvcs 0 c (by omega) (by omega)) ?_
 refine gIn ?_ ?_ fun b1 c1 _ => ?_
 ·show (0 + _) * 24 ≤ _; simp; omega
 ·exact Nat.le_trans (m := 2000000000) (by simp; omega) (by decide)
 have hx0 : Rows μ4 1 ((cls.take c).map csD) (([] : List Value) ++ (vc.drop 0).take (c - 0)) := by
  have := (hvc.drop 0).take (c - 0)
  simpa [List.map_take] using this
 refine lIn (fun z : Nat × Option Nat × Nat × List Value × Mem => z.1 ≤ ds.length ∧ μ4.Le z.2.2.2.2 ∧ Rows z.2.2.2.2 1 ((cls.take c ++ (ds.take z.1).map (unfC l a g N)).map csD) z.2.2.2.1)
  (fun (i, b, co, ys, μ') => ⟨[(2, .val (.int .i64 c)), (4, .loc 0 r4 0), (8, .loc 1 r8 0), (10, .val (.slice pv.1 cls.length pv.2)), (11, .val (.int .i64 a)), (13, .val (.int .i64 k)), (14, .val (.slice pl.1 l.length pl.2)), (15, .loc 2 r15 0), (16, .val (.int .i64 N)), (18, .val (.bool gd)), (19, .row 3 b ys.length co), (87, .val (.slice pd.1 ds.length pd.2)), (88, .val (.int .i64 ds.length)), (89, .val (.int .i64 i))],
   [(0, some (.cells r4 [.val (.slice q.1 p.rels.length q.2)] 45)), (1, some (.cells r8 [.val (.slice none 0 0)] 45)), (2, some (.cells r15 (vals (q2.cs qq)) 94)), (3, some (.row b co 28 1 ys))], 4, μ', Mem.nil⟩) (fun z => ds.length - z.1)
  (0, b1, c1, ([] : List Value) ++ (vc.drop 0).take (c - 0), μ4) ⟨Nat.zero_le _, Mem.Le.refl _, by simpa using hx0⟩ (fun (_, _, _, _, _) => ⟨rfl, rfl⟩) ⟨⟨rfl, rfl, rfl, rfl, rfl, rfl, rfl, rfl, rfl, rfl, rfl, rfl, rfl, rfl, trivial⟩, ⟨rfl, rfl, rfl, rfl, trivial⟩, rfl, rfl⟩ ?_
 rintro ⟨i, b, co, ys, μ5⟩ ⟨hi, hle5, hrows⟩
 dsimp only at hi hle5 hrows
 have hyl := hrows.len
 simp only [List.length_map, List.length_append, List.length_take] at hyl
 refine ifd (fun hlt => ?_) (fun hlt => ?_)
 ·have w_ := aSo (l := ds) (i := i) (by omega)
  obtain ⟨d, hd⟩ := w_
  have w_ := cls_elem ((Cls.sl hDr).1.mono hle5) hd
  obtain ⟨adi, pi, heli, hri⟩ := w_
  have hdl := (hDb.1 d (mAt hd)).1
  have hds := csD_sl hri
  refine eIn heli ?_
  intro r93
  refine cut_intro 0 a rfl rfl (by omega) (by omega) ?_
  refine src_intro _ (srcAt_mono (hvls 0 a (by omega) (by omega)) hle5) ?_
  refine gIn ?_ ?_ fun b2 c2 _ => ?_
  ·show (0 + _) * 72 ≤ _; simp; omega
  ·exact Nat.le_trans (m := 2000000000) (by simp; omega) (by decide)
  have hy0 : Rows μ5 4 ((l.take a).map Gl.d) (([] : List Value) ++ (vl.drop 0).take (a - 0)) := by
   have := (hvl.drop 0).take (a - 0)
   simpa [List.map_take] using this.mono hle5
  refine eIn (helg4.mono hle5) ?_
  refine lIn (fun z : Nat × Option Nat × Nat × List Value × Mem => z.1 ≤ g.terms.length ∧ μ5.Le z.2.2.2.2 ∧ Rows z.2.2.2.2 4 ((l.take a ++ (eqsG N g.terms).take z.1).map Gl.d) z.2.2.2.1)
   (fun (j, b', co', zs, μ') => ⟨[(2, .val (.int .i64 c)), (4, .loc 0 r4 0), (8, .loc 1 r8 0), (10, .val (.slice pv.1 cls.length pv.2)), (11, .val (.int .i64 a)), (13, .val (.int .i64 k)), (14, .val (.slice pl.1 l.length pl.2)), (15, .loc 2 r15 0), (16, .val (.int .i64 N)), (18, .val (.bool gd)), (19, .row 3 b ys.length co), (87, .val (.slice pd.1 ds.length pd.2)), (88, .val (.int .i64 ds.length)), (89, .val (.int .i64 i)), (21, .val (.slice pi.1 d.length pi.2)), (22, .row 4 b' zs.length co'), (102, .val (.slice pg.1.1 g.terms.length pg.1.2)), (103, .val (.int .i64 g.terms.length)), (104, .val (.int .i64 j))],
    [(0, some (.cells r4 [.val (.slice q.1 p.rels.length q.2)] 45)), (1, some (.cells r8 [.val (.slice none 0 0)] 45)), (2, some (.cells r15 (vals (q2.cs qq)) 94)), (3, some (.row b co 28 1 ys)), (4, some (.row b' co' 30 4 zs))], 5, μ', Mem.nil⟩) (fun z => g.terms.length - z.1)
   (0, b2, c2, ([] : List Value) ++ (vl.drop 0).take (a - 0), μ5) ⟨Nat.zero_le _, Mem.Le.refl _, by simpa using hy0⟩ (fun (_, _, _, _, _) => ⟨rfl, rfl⟩) ⟨⟨rfl, rfl, rfl, rfl, rfl, rfl, rfl, rfl, rfl, rfl, rfl, rfl, rfl, rfl, rfl, rfl, rfl, rfl, rfl, trivial⟩, ⟨rfl, rfl, rfl, rfl, rfl, trivial⟩, rfl, rfl⟩ ?_
  clear hy0
  rintro ⟨j, b3, c3, zs, μ6⟩ ⟨hj, hle6, hrows3⟩
  dsimp only at hj hle6 hrows3
  have hzl := hrows3.len
  simp only [List.length_map, List.length_append, List.length_take, eqsG_len] at hzl
  refine ifd (fun hlt3 => ?_) (fun hlt3 => ?_)
  ·have w_ := aSo (l := g.terms) (i := j) (by omega)
   obtain ⟨t, ht⟩ := w_
   have w_ := Tm.elem (hgts.mono (hle5.trans hle6)) ht
   obtain ⟨adt, pt, helt, hrt⟩ := w_
   refine eIn helt ?_
   intro r24
   refine num64 (by omega) (by omega) ?_
   refine cGv (l02Var_spec _) ?_
   intro r115
   refine call_frz [6] ?_
   intro μ7 hle7 hno7 hat7
   refine call_go (l13Make_spec (a := (some ⟨r115, 0, none⟩, 2, 2)) (b := (none, 0, 0))) fun v8 μ8 hle8 hR8 => ?_
   obtain ⟨rfl, e8⟩ := hR8
   obtain rfl := e8.symm
   intro r117
   refine gIn ?_ ?_ fun b4 c4 _ => ?_
   ·show (zs.length + 1) * 72 ≤ _; omega
   ·exact Nat.le_trans (m := 100000000) (show zs.length + 1 ≤ _ by omega) (by decide)
   have hE : RepV μ7 (eqG N j t).d _ := eqG_rep (Rows.sl hat7 (.cons (RepV.mono hle7 (varV_rep (N + j))) (Tm.d_n _) (.cons (RepV.mono hle7 hrt) (Tm.d_n _) .nil)) (show 2 ≤ maxLen by decide))
   refine num64 (by omega) (by omega) ⟨(j + 1, b4, c4, _, μ7), ⟨by dsimp only; omega, hle6.trans hle7, ?_⟩, by dsimp only; omega, ⟨⟨rfl, rfl, rfl, rfl, rfl, rfl, rfl, rfl, rfl, rfl, rfl, rfl, rfl, rfl, rfl, rfl, rfl, rfl, rfl, trivial⟩, ⟨rfl, rfl, rfl, rfl, rfl, trivial⟩, rfl, rfl⟩⟩
   dsimp only
   rw [eqsG_take ht, ← List.append_assoc, List.map_append (l₂ := [eqG N j t])]
   exact (hrows3.mono hle7).append (Rows.one hE (Gl.d_n _))
  obtain rfl : j = g.terms.length := by omega
  rw [List.take_of_length_le (l := eqsG N g.terms) (by rw [eqsG_len]; omega)] at hrows3
  refine lIn (fun z : Nat × Option Nat × Nat × List Value × Mem => z.1 ≤ d.length ∧ μ6.Le z.2.2.2.2 ∧ Rows z.2.2.2.2 4 ((l.take a ++ eqsG N g.terms ++ (d.take z.1).map (Gl.put (shF N))).map Gl.d) z.2.2.2.1)
   (fun (j, b', co', zs, μ') => ⟨[(2, .val (.int .i64 c)), (4, .loc 0 r4 0), (8, .loc 1 r8 0), (10, .val (.slice pv.1 cls.length pv.2)), (11, .val (.int .i64 a)), (13, .val (.int .i64 k)), (14, .val (.slice pl.1 l.length pl.2)), (15, .loc 2 r15 0), (16, .val (.int .i64 N)), (18, .val (.bool gd)), (19, .row 3 b ys.length co), (87, .val (.slice pd.1 ds.length pd.2)), (88, .val (.int .i64 ds.length)), (89, .val (.int .i64 i)), (22, .row 4 b' zs.length co'), (120, .val (.slice pi.1 d.length pi.2)), (121, .val (.int .i64 d.length)), (122, .val (.int .i64 j))],
    [(0, some (.cells r4 [.val (.slice q.1 p.rels.length q.2)] 45)), (1, some (.cells r8 [.val (.slice none 0 0)] 45)), (2, some (.cells r15 (vals (q2.cs qq)) 94)), (3, some (.row b co 28 1 ys)), (4, some (.row b' co' 30 4 zs))], 5, μ', Mem.nil⟩) (fun z => d.length - z.1)
   (0, b3, c3, zs, μ6) ⟨Nat.zero_le _, Mem.Le.refl _, by simpa using hrows3⟩ (fun (_, _, _, _, _) => ⟨rfl, rfl⟩) ⟨⟨rfl, rfl, rfl, rfl, rfl, rfl, rfl, rfl, rfl, rfl, rfl, rfl, rfl, rfl, rfl, rfl, rfl, rfl, trivial⟩, ⟨rfl, rfl, rfl, rfl, rfl, trivial⟩, rfl, rfl⟩ ?_
  clear hrows3
  rintro ⟨j, b5, c5, ws, μ7⟩ ⟨hj2, hle7, hrows4⟩
  dsimp only at hj2 hle7 hrows4
  have hwl := hrows4.len
  simp only [List.length_map, List.length_append, List.length_take, eqsG_len] at hwl
  refine ifd (fun hlt4 => ?_) (fun hlt4 => ?_)
  ·have w_ := aSo (l := d) (i := j) (by omega)
   obtain ⟨y, hy⟩ := w_
   have w_ := Gl.elem (hds.mono (hle6.trans hle7)) hy
   obtain ⟨ady, py, hely, hry⟩ := w_
   refine eIn hely ?_
   intro r26
   have hyS : y.Sh := hqo.body.all q2.body y ((hDb.1 d (mAt hd)).2 y (mAt hy))
   refine cPl (l14Shift_spec hN0 y hry hyS) fun v8 μ8 hle8 hR8 => ?_
   have w_ := Gl.invV hR8
   obtain ⟨q8, rfl⟩ := w_
   intro r130
   refine gIn ?_ ?_ fun b4 c4 _ => ?_
   ·show (ws.length + 1) * 72 ≤ _; omega
   ·exact Nat.le_trans (m := 100000000) (show ws.length + 1 ≤ _ by omega) (by decide)
   refine num64 (by omega) (by omega) ⟨(j + 1, b4, c4, _, μ8), ⟨by dsimp only; omega, hle7.trans hle8, ?_⟩, by dsimp only; omega, ⟨⟨rfl, rfl, rfl, rfl, rfl, rfl, rfl, rfl, rfl, rfl, rfl, rfl, rfl, rfl, rfl, rfl, rfl, rfl, trivial⟩, ⟨rfl, rfl, rfl, rfl, rfl, trivial⟩, rfl, rfl⟩⟩
   dsimp only
   rw [List.take_add_one, hy, Option.toList_some, List.map_append (f := Gl.put (shF N)), ← List.append_assoc, List.map_append (f := Gl.d)]
   exact (hrows4.mono hle8).append (Rows.one hR8 (Gl.d_n _))
  obtain rfl : j = d.length := by omega
  rw [List.take_length] at hrows4
  have hle57 := hle5.trans (hle6.trans hle7)
  refine num64 (by omega) (by omega) ?_
  refine cut_intro (a + 1) l.length rfl rfl (by omega) (by omega) ?_
  refine src_intro _ (srcAt_mono (hvls (a + 1) l.length (by omega) (Nat.le_refl _)) hle57) ?_
  refine gIn ?_ ?_ fun b6 c6 _ => ?_
  ·show (ws.length + _) * 72 ≤ _; simp; omega
  ·exact Nat.le_trans (m := 2000000000) (by simp; omega) (by decide)
  have hz0 : Rows μ7 4 ((unfC l a g N d).map Gl.d) (ws ++ (vl.drop (a + 1)).take (l.length - (a + 1))) := by
   have h1 := ((hvl.drop (a + 1)).take (l.length - (a + 1))).mono hle57
   have h2 := hrows4.append h1
   have e5 : ((l.map Gl.d).drop (a + 1)).take (l.length - (a + 1)) = (l.drop (a + 1)).map Gl.d := by
    rw [List.take_of_length_le (by simp), List.map_drop]
   rw [e5, ← List.map_append] at h2
   exact h2
  intro μ8 hle8 hno8 hat8 r140
  refine gIn ?_ ?_ fun b7 c7 _ => ?_
  ·show (ys.length + 1) * 24 ≤ _; omega
  ·exact Nat.le_trans (m := 100000000) (show ys.length + 1 ≤ _ by omega) (by decide)
  have hC : RepV μ8 (csD (unfC l a g N d)) _ := Rows.sl hat8 (hz0.mono hle8) (Nat.le_trans (m := 2000000000) (by simp; omega) (by decide))
  refine num64 (by omega) (by omega) ⟨(i + 1, b7, c7, _, μ8), ⟨by dsimp only; omega, hle57.trans hle8, ?_⟩, by dsimp only; omega, ⟨⟨rfl, rfl, rfl, rfl, rfl, rfl, rfl, rfl, rfl, rfl, rfl, rfl, rfl, rfl, trivial⟩, ⟨rfl, rfl, rfl, rfl, trivial⟩, rfl, rfl⟩⟩
  dsimp only
  rw [List.take_add_one, hd, Option.toList_some, List.map_append (f := unfC l a g N), ← List.append_assoc, List.map_append (f := csD)]
  exact (hrows.mono ((hle6.trans (hle7.trans hle8)))).append (Rows.one hC rfl)
 obtain rfl : i = ds.length := by omega
 rw [List.take_length] at hrows
 refine num64 (by omega) (by omega) ?_
 refine cut_intro (c + 1) cls.length rfl rfl (by omega) (by omega) ?_
 refine src_intro _ (srcAt_mono (hvcs (c + 1) cls.length (by omega) (Nat.le_refl _)) hle5) ?_
 refine gIn ?_ ?_ fun b8 c8 _ => ?_
 ·show (ys.length + _) * 24 ≤ _; simp; omega
 ·exact Nat.le_trans (m := 2000000000) (by simp; omega) (by decide)
 obtain ⟨X, hXe⟩ : ∃ X : UnfD, X = ⟨k, r, cls, c, l, a, g, q2⟩ := ⟨_, rfl⟩
 rw [← hXe] at hAt
 have hLs : X.ls ds = cls.take c ++ ds.map (unfC l a g N) ++ cls.drop (c + 1) := by rw [hXe, ← hN]; rfl
 have hall0 : Rows μ5 1 ((X.ls ds).map csD) (ys ++ (vc.drop (c + 1)).take (cls.length - (c + 1))) := by
  have h1 := ((hvc.drop (c + 1)).take (cls.length - (c + 1))).mono hle5
  have h2 := hrows.append h1
  have e5 : ((cls.map csD).drop (c + 1)).take (cls.length - (c + 1)) = (cls.drop (c + 1)).map csD := by
   rw [List.take_of_length_le (by simp), List.map_drop]
  rw [e5, ← List.map_append, ← hLs] at h2
  exact h2
 have hLl : (X.ls ds).length ≤ 1000 := by
  rw [hLs]; simp only [List.length_append, List.length_take, List.length_map, List.length_drop]; omega
 have hLc : ∀ z ∈ X.ls ds, z.length ≤ 1000 := fun z hz => by
  rw [hLs] at hz
  rcases List.mem_append.1 hz with hz | hz
  ·rcases List.mem_append.1 hz with hz | hz
   ·have := hbnd.1 z (List.mem_of_mem_take hz); omega
   ·have w_ := List.mem_map.1 hz
    obtain ⟨d, hd, rfl⟩ := w_
    have := (hDb.1 d hd).1
    rw [unfC]
    simp only [List.length_append, List.length_take, List.length_map, List.length_drop, eqsG_len]; omega
  ·have := hbnd.1 z (List.mem_of_mem_drop hz); omega
 have hLw : ∀ z ∈ X.ls ds, ∀ y ∈ z, y.d.wd := unf_wd hw hr e hl hg hq2 hqo (by omega) (by omega) hLs (fun d hd y hy => (hDb.1 d hd).2 y hy) (by omega)
 have hall0l := hall0.len
 rw [List.length_map] at hall0l
 refine call_frz [3] ?_
 intro μ6 hle6 hno6 hat6
 have hLr6 : Cls μ6 (X.ls ds) _ := Rows.sl hat6 (hall0.mono hle6) (Nat.le_trans (m := 2000000000) (by omega) (by decide))
 have hCG := spec_ClauseGoal_spec (cap := c8) (Cls.sl hLr6).1 hLw (by omega) (fun z hz => by have := hLc z hz; omega)
 rw [hall0l] at hCG
 refine call_go hCG fun v7 μ7 hle7 hR7 => ?_
 have hle17 := hle4.trans (hle5.trans (hle6.trans hle7))
 obtain ⟨bg, fd, tv, rfl, hbg, hfd⟩ : ∃ bg fd tv, v7 = .tuple #[tv, .bool fd] ∧ RepV μ7 (Gl.d bg) tv ∧ ((fd = true ∧ CgOk (X.ls ds) ∧ bg = cgG (X.ls ds)) ∨ (fd = false ∧ ¬ CgOk (X.ls ds))) := by
  by_cases hok : CgOk (X.ls ds)
  ·rw [cgO, if_pos hok] at hR7
   obtain ⟨tv, h1, h2⟩ := hR7
   exact ⟨_, true, tv, h1, h2, .inl ⟨rfl, hok, rfl⟩⟩
  ·rw [cgO, if_neg hok] at hR7
   exact ⟨.mk 0 ⟨#[]⟩ [] [], false, _, hR7, zeroG_own.rep (fun _ _ h => nomatch h), .inr ⟨rfl, hok⟩⟩
 have w_ := Gl.invV hbg
 obtain ⟨q7, rfl⟩ := w_
 intro r27 r29
 obtain ⟨LL, hLL⟩ : ∃ LL : Int, r.locals + q2.arity + q2.locals = LL := ⟨_, rfl⟩
 have hqlo0 := hqo.lo0
 have hqlo8 := hqo.lo8
 have hqar0 := hqo.ar0
 have hqar4 := hqo.ar4
 have hp8 := hpo.1
 have hkl := (List.getElem?_eq_some_iff.1 hr).1
 refine loop_nil (fun z : Nat × Option Nat × Nat × List Value × Mem => z.1 ≤ p.rels.length ∧ μ7.Le z.2.2.2.2 ∧ Rows z.2.2.2.2 7 (((p.rels.set k ⟨r.name, r.arity, LL, bg⟩).take z.1).map Rl.d) z.2.2.2.1)
  (fun (i, b, c, us, μ') => ⟨[(8, .loc 1 r8 0), (13, .val (.int .i64 k)), (15, .loc 2 r15 0), (18, .val (.bool gd)), (27, .loc 4 r27 0), (28, .val (.bool fd)), (29, .loc 5 r29 0), (156, .val (.slice q.1 p.rels.length q.2)), (157, .val (.int .i64 p.rels.length)), (158, .val (.int .i64 i))],
   [(1, some (.cells r8 [.val (.slice none 0 0)] 45)), (2, some (.cells r15 (vals (q2.cs qq)) 94)), (4, some (.cells r27 (vals (bg.cs q7)) 30)), (5, some (.cells r29 [.row 6 b us.length c] 45)), (6, some (.row b c 94 7 us))], 7, μ', Mem.nil⟩) (fun z => p.rels.length - z.1)
  (0, none, 0, [], μ7) ⟨Nat.zero_le _, Mem.Le.refl _, .nil⟩ (fun (_, _, _, _, _) => ⟨rfl, rfl⟩) ⟨⟨⟨_, rfl, .inl rfl⟩, ⟨_, rfl, .inl rfl⟩, ⟨_, rfl, .inl rfl⟩, ⟨_, rfl, .inl rfl⟩, ⟨_, rfl, .inl rfl⟩, ⟨_, rfl, .inl rfl⟩, ⟨_, rfl, .inl rfl⟩, ⟨_, rfl, .inl rfl⟩, ⟨_, rfl, .inl rfl⟩, ⟨_, rfl, .inl rfl⟩, trivial⟩, ⟨.inl rfl, .inl rfl, .inl rfl, .inr (.inr ⟨_, _, _, _, rfl, rfl, .inr ⟨6, rfl, rfl, Nat.le_refl _⟩, trivial⟩), .inr (.inl ⟨_, _, rfl, Nat.le_refl _⟩), trivial⟩, rfl, rfl⟩ ?_
 rintro ⟨i, b9, c9, us, μ8⟩ ⟨hi, hle8, hrows5⟩
 dsimp only at hi hle8 hrows5
 have hul := hrows5.len
 simp only [List.length_map, List.length_take, List.length_set] at hul
 refine ifd (fun hlt => ?_) (fun hlt => ?_)
 ·have w_ := aSo (l := p.rels) (i := i) (by omega)
  obtain ⟨x2, hx2⟩ := w_
  have w_ := Rl.elemA (hrl.mono (hle1.trans (hle17.trans hle8))) hx2
  obtain ⟨ad, qx, hel, hr2, hb⟩ := w_
  have hb : RepV μ8 x2.body.d (.agg (x2.body.cs qx).toArray) := hb
  refine eIn hel ?_
  intro r31
  refine cPl (l13Copy_spec x2.body hb (hpo.2 i x2 hx2).body) fun v9 μ9 hle9 hR9 => ?_
  have w_ := Gl.invV hR9
  obtain ⟨q9, rfl⟩ := w_
  intro r32
  refine ifd (fun hik => ?_) (fun hik => ?_)
  ·obtain rfl : i = k := by omega
   rw [hr] at hx2
   cases hx2
   refine num64 (by omega) (by omega) ?_
   refine num64 (by omega) (by omega) ?_
   rw [hLL]
   intro r190
   refine gIn ?_ ?_ fun b' c' _ => ?_
   ·show (us.length + 1) * 104 ≤ _; omega
   ·exact Nat.le_trans (m := 100000000) (show us.length + 1 ≤ _ by omega) (by decide)
   refine num64 (by omega) (by omega) ⟨(i + 1, b', c', _, μ9), ⟨by dsimp only; omega, hle8.trans hle9, ?_⟩, by dsimp only; omega, ⟨⟨rfl, rfl, rfl, rfl, rfl, rfl, rfl, rfl, rfl, rfl, trivial⟩, ⟨rfl, rfl, rfl, rfl, rfl, trivial⟩, rfl, rfl⟩⟩
   dsimp only
   rw [List.take_add_one, List.getElem?_set_self (by omega), Option.toList_some]
   simp only [List.map_append, List.map_cons, List.map_nil]
   refine (hrows5.mono hle9).append (Rows.one ?_ (Rl.d_n _))
   rw [Rl.d_eq]
   exact ⟨_, rfl, RepS.str (RepS.int (RepS.int (RepS.last (RepV.cells (RepV.mono (hle8.trans hle9) hbg)))))⟩
  ·intro r190
   refine gIn ?_ ?_ fun b' c' _ => ?_
   ·show (us.length + 1) * 104 ≤ _; omega
   ·exact Nat.le_trans (m := 100000000) (show us.length + 1 ≤ _ by omega) (by decide)
   refine num64 (by omega) (by omega) ⟨(i + 1, b', c', _, μ9), ⟨by dsimp only; omega, hle8.trans hle9, ?_⟩, by dsimp only; omega, ⟨⟨rfl, rfl, rfl, rfl, rfl, rfl, rfl, rfl, rfl, rfl, trivial⟩, ⟨rfl, rfl, rfl, rfl, rfl, trivial⟩, rfl, rfl⟩⟩
   dsimp only
   rw [List.take_add_one, List.getElem?_set_ne (by omega), hx2, Option.toList_some]
   simp only [List.map_append, List.map_cons, List.map_nil]
   refine (hrows5.mono hle9).append (Rows.one ?_ (Rl.d_n _))
   rw [Rl.d_eq]
   exact ⟨_, rfl, RepS.str (RepS.int (RepS.int (RepS.last (RepV.cells hR9))))⟩
 obtain rfl : i = p.rels.length := by omega
 rw [List.take_of_length_le (by rw [List.length_set]; omega)] at hrows5
 have hqcl : X.q.body.cl = q2.body.cl := by rw [hXe]
 rcases hgd with ⟨rfl, e4⟩ | ⟨rfl, e4⟩
 rotate_left
 ·refine iIn (fun _ => ?_) (fun h => nomatch h)
  refine rPl ?_
  rw [unfO_bad hAt fun ds' hd => by have h1 := hd.1; rw [hqcl, e4] at h1; cases h1]
  rfl
 refine iIn (fun h => nomatch h) (fun _ => ?_)
 have hds : ∀ ds', X.q.body.cl = some ds' → ds' = ds := fun ds' h1 => by rw [hqcl, e4] at h1; exact (Option.some.inj h1).symm
 rcases hfd with ⟨rfl, hok, rfl⟩ | ⟨rfl, hok⟩
 rotate_left
 ·refine iIn (fun _ => ?_) (fun h => nomatch h)
  refine rPl ?_
  rw [unfO_bad hAt fun ds' hd => by have h1 := hds ds' hd.1; subst h1; exact hok hd.2.1]
  rfl
 refine iIn (fun h => nomatch h) (fun _ => ?_)
 have hXpg : X.pg p ds = ⟨p.rels.set k ⟨r.name, r.arity, LL, cgG (X.ls ds)⟩⟩ := by rw [UnfD.pg, hXe, ← hLL]
 have hwP : (X.pg p ds).d.wd := by
  have hw1 : D.wds (p.rels.map Rl.d) := by rw [Pg.d_eq] at hw; exact hw.1
  rw [hXpg, Pg.d_eq]
  refine ⟨D.wds_of fun d hd => ?_, trivial⟩
  have w_ := List.mem_map.1 hd
  obtain ⟨x, hx, rfl⟩ := w_
  rcases List.mem_or_eq_of_mem_set hx with hx | rfl
  ·exact D.wds_mem hw1 _ (List.mem_map_of_mem hx)
  ·have hrw := (rl_body_wd hw hr).1
   rw [Rl.d_eq] at hrw ⊢
   refine ⟨hrw.1, hrw.2.1, ⟨show _ ≤ LL by omega, show LL ≤ _ by omega⟩, ?_, trivial⟩
   refine Gl.wd_mk ⟨show (-9223372036854775808 : Int) ≤ 8 by decide, show (8 : Int) ≤ 9223372036854775807 by decide⟩ (Nat.zero_le _) (fun x hx => absurd hx List.not_mem_nil) fun x hx => ?_
   have w_ := List.mem_map.1 (show x ∈ (X.ls ds).map cgA from hx)
   obtain ⟨z, hz, rfl⟩ := w_
   exact Gl.wd_mk ⟨show (-9223372036854775808 : Int) ≤ 7 by decide, show (7 : Int) ≤ 9223372036854775807 by decide⟩ (Nat.zero_le _) (fun x hx => absurd hx List.not_mem_nil) fun x hx => hLw z hz x hx
 refine call_frz [6] ?_
 intro μ9 hle9 hno9 hat9
 have hfin := Pg.repS (p := X.pg p ds) (by rw [hXpg]; exact Rows.sl hat9 (hrows5.mono hle9) (Nat.le_trans (m := 100000000) (by omega) (by decide)))
 refine call_go (spec_ProgramOk_spec hfin hwP) fun v10 μ10 hle10 hR10 => ?_
 obtain rfl := hR10
 refine ifnd (fun hbad => ?_) (fun hgood => ?_)
 ·refine rPl ?_
  rw [unfO_bad hAt fun ds' hd => by have h1 := hds ds' hd.1; subst h1; exact hbad hd.2.2]
  rfl
 ·refine rPl ?_
  rw [unfO_some hAt ⟨by rw [hqcl, e4], hok, hgood⟩]
  exact ⟨_, rfl, RepV.mono hle10 hfin⟩
end
end Go.Vx
