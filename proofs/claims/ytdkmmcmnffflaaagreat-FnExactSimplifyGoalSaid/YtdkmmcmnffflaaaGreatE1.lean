/- Texts of the proof, part E1. -/
import Derived.Test.YtdkmmcmnffflaaaGreatM5
namespace Go.Vx
open Go.Proofs Classical
section
variable {μ : Mem}
theorem markGoal_spec (x : Gl) {h : Mem} {v : Value} {k : Int} (ho : OwnV x.d h v) (hk : 0 ≤ k) (hk2 : k + (D.cnts (x.terms.map Tm.d) + D.cnts (x.goals.map Gl.d)) ≤ 9223372036854775807) :
  SpecH Tryz.prog 14 [v, .int .i64 k] μ h fun r μ' h' => r = .int .i64 (x.d.mt k).2 ∧ μ' = μ ∧ OwnV (x.d.mt k).1 h' v := by
 have ho2 : ∃ cs, v = .agg (List.toArray cs) ∧ Own x.d h cs := by rw [Gl.d_eq] at ho ⊢; exact ho
 obtain ⟨cs, rfl, ho2⟩ := ho2
 have w_ := Gl.ownR ho2
 obtain ⟨p, rfl, ch⟩ := w_
 rw [Gl.mt_eq]
 have hs0 := D.mks_cnt (x.terms.map Tm.d) (k)
 have hs1 := D.mks_cnt (x.goals.map Gl.d) ((D.mks (x.terms.map Tm.d) (k)).2)
 refine SpecH.mk [] Tryz.func14 (by kernel_rfl) ?_
 intro r
 obtain ⟨g1, g2, q0, ch0, ch1⟩ := ch
 refine cOw (SpecH.frame q0 (markTermS_spec ch0 (by omega) (by omega))) fun v μ1 h1 hle hap hR => ?_
 obtain ⟨y0, ⟨rfl, e, oo0⟩, pp0⟩ := hR
 subst e
 refine cOw (SpecH.frame pp0.symm (markGoalS_spec ch1 (by omega) (by omega))) fun v μ2 h2 hle hap hR => ?_
 obtain ⟨y1, ⟨rfl, e, oo1⟩, pp1⟩ := hR
 subst e
 have PP := pp1.symm
 exact rPl ⟨rfl, rfl, _, rfl, OwnS.int (OwnS.str (OwnS.cons (c1 := [_]) PP oo0 (OwnS.last oo1)))⟩
theorem heldGoal_spec (x : Gl) {v : Value} {k : Int} (ho : RepV μ (x.d.mt k).1 v) (hk : 0 ≤ k) (hk2 : k + (D.cnts (x.terms.map Tm.d) + D.cnts (x.goals.map Gl.d)) ≤ 9223372036854775807) :
  Gives Tryz.prog 15 [v, .int .i64 k] μ (.int .i64 (x.d.mt k).2) := by
 rw [Gl.mt_eq] at ho ⊢
 obtain ⟨_, rfl, _, _, rfl, rfl, _, _, rfl, rfl, cc0, _, rfl, hh0, cc1, _, rfl, hh1, rfl⟩ := ho
 have w_ := one_of (Rep.len _ _ hh0)
 obtain ⟨vv0, rfl⟩ := w_
 have hv0 := hh0
 have w_ := Rep.sl hv0
 obtain ⟨bb0, kk0, rfl, _⟩ := w_
 have hs0 := D.mks_cnt (x.terms.map Tm.d) (k)
 have w_ := one_of (Rep.len _ _ hh1)
 obtain ⟨vv1, rfl⟩ := w_
 have hv1 := hh1
 have w_ := Rep.sl hv1
 obtain ⟨bb1, kk1, rfl, _⟩ := w_
 have hs1 := D.mks_cnt (x.goals.map Gl.d) ((D.mks (x.terms.map Tm.d) (k)).2)
 refine Spec.mk Tryz.func15 (by kernel_rfl) ?_
 intro r
 refine cGv (heldTermS_spec hh0 (by omega) (by omega)) ?_
 refine ifd (fun h => absurd h (by omega)) (fun _ => ?_)
 refine cGv (heldGoalS_spec hh1 (by omega) (by omega)) ?_
 refine ifd (fun h => absurd h (by omega)) (fun _ => ?_)
 exact rGv rfl rfl
end
end Go.Vx
namespace Go.Vx
open Go.Proofs Classical
section
variable {μ : Mem}
theorem gl_cnt_sz : ∀ g : Gl, g.d.cnt ≤ 3 + 3 * g.d.sz :=
 Gl.ind fun g ih => by
  have h1 := tms_cnt g.terms
  have h2 : D.cnts (g.goals.map Gl.d) ≤ 3 * g.goals.length + 3 * D.szs (g.goals.map Gl.d) := by
   generalize g.goals = l at ih
   induction l with
   | nil => simp [D.cnts, D.szs]
   | cons t l ih2 =>
    have h1 := ih t (by simp)
    have h2 := ih2 fun t ht => ih t (by simp [ht])
    simp only [List.map_cons, D.cnts, D.szs, List.length_cons]; omega
  rw [Gl.cnt_eq, Gl.sz_eq]; omega
theorem gl_mt (g : Gl) (k : Int) : (g.d.mt k).2 = k + (D.cnts (g.terms.map Tm.d) + D.cnts (g.goals.map Gl.d)) := by
 rw [Gl.mt_eq]
 have h1 := D.mks_cnt (g.terms.map Tm.d) k
 have h2 := D.mks_cnt (g.goals.map Gl.d) (D.mks (g.terms.map Tm.d) k).2
 dsimp only
 omega
set_option maxHeartbeats 4000000 in
end
end Go.Vx
namespace Go.Vx
open Go.Proofs Classical
section
variable {μ : Mem}
theorem simp_rep {μ : Mem} {g : Gl} {v : Value} (h : RepV μ g.d v) : ∃ tv, v = tv ∧ RepV μ g.d tv := ⟨v, rfl, h⟩
theorem simp_fresh {μ μ' : Mem} {g : Gl} {v : Value} (h : Fresh μ μ' g.d v) : ∃ tv, v = id tv ∧ Fresh μ μ' g.d tv := ⟨v, rfl, h⟩
theorem simpO_size (g : Gl) : (simpO g).d.cnt ≤ 10000000 := by
 unfold simpO
 split
 ·rename_i h
  have h1 := gl_cnts_ok _ h.simp.1
  have h2 := h.simp.2
  omega
 ·rw [Gl.cnt_eq]; simp [D.cnts, Gl.terms, Gl.goals]
set_option maxHeartbeats 4000000 in
theorem FnExactSimplifyGoal_spec {t0 : Gl} {v0 : Value} (h0 : RepV μ t0.d v0) (w0 : t0.d.wd) :
  Spec Tryz.prog 3 [v0] μ fun r _ => r = .bool true := by
 obtain ⟨p0, rfl⟩ := Gl.invV h0
 refine Spec.mk Tryz.func3 (by kernel_rfl) ?_
 intro r0
 refine cGv (szGoal_spec t0 h0 (by omega) (by omega) w0) ?_
 refine ifd (fun h => rPl rfl) (fun h => ?_)
 have q0 := szR_ge h
 rw [szR_pos q0] at h
 have hb0 : t0.d.sz ≤ 1048576 := by omega
 refine cPl (toGoal_spec t0 h0 hb0) fun u1 μ1 hle1 hf1 => ?_
 replace h0 := h0.mono hle1
 obtain ⟨qq2, rfl⟩ := Gl.invV hf1.rep
 have a0 := hf1.rep
 refine cPl (spec_SimplifyGoal_spec a0 w0) fun u3 μ3 hle3 hR => ?_
 replace h0 := h0.mono hle3
 replace a0 := a0.mono hle3
 obtain ⟨w0, rfl, hw0⟩ := simp_rep hR
 obtain ⟨qq4, rfl⟩ := Gl.invV hw0
 have hw := hw0
 intro rw0
 refine call_new id (apart_nil _) Owns.none ((toGoal_spec t0 (h0.mono (Mem.le_join _ _)) hb0).weaken fun v μ' _ h => ⟨v, rfl, h⟩) fun x0 μ5 H5 hle5 hap5 ho5 => ?_
 replace h0 := h0.mono hle5
 replace hw := hw.mono hle5
 obtain ⟨qq6, rfl⟩ := Gl.invV (Owns.rep (l1 := []) hap5 ho5)
 have xx0 := (Owns.rep (l1 := []) hap5 ho5)
 intro rx0
 refine call_new (id) hap5 ho5 ((impl_SimplifyGoal_spec (Owns.rep (l1 := []) hap5 ho5)).weaken fun v μ' _ h => simp_fresh h) fun g0 μ7 H7 hle7 hap7 ho7 => ?_
 replace h0 := h0.mono hle7
 replace hw := hw.mono hle7
 obtain ⟨qq8, rfl⟩ := Gl.invV (Owns.rep (l1 := [_]) hap7 ho7)
 have gg := (Owns.rep (l1 := [_]) hap7 ho7)
 intro rg0
 refine call_read hap7 (eqGoal_spec _ (Owns.rep (l1 := [_]) hap7 ho7) (hw.mono (Mem.le_join _ _))) ?_
 refine iIn (fun h => nomatch h) (fun _ => ?_)
 refine cDa hap7 (toGoal_spec t0 h0 hb0) fun u9 μ9 hle9 hap9 hf9 => ?_
 replace h0 := h0.mono hle9
 replace hw := hw.mono hle9
 refine call_read hap9 (eqGoal_spec t0 (Owns.rep (l1 := []) hap9 ho7) (hf9.rep.mono (Mem.le_join _ _))) ?_
 refine iIn (fun h => nomatch h) (fun _ => ?_)
 have ca0 := gl_cnt_sz t0
 rw [Gl.cnt_eq] at ca0
 have ma0 := gl_mt t0 (1)
 have rz := simpO_size t0
 rw [Gl.cnt_eq] at rz
 have mg := gl_mt (simpO t0) 1
 refine call_mark (l1 := []) hap9 ho7 (fun hx o => markGoal_spec t0 o (by omega) (by omega)) fun H10 hap10 ho10 => ?_
 refine ifd (fun h => by omega) (fun _ => ?_)
 refine call_read hap10 (eqGoal_spec _ (Owns.rep (l1 := [_]) hap10 ho10) (hw.mono (Mem.le_join _ _))) ?_
 refine iIn (fun h => nomatch h) (fun _ => ?_)
 refine call_mark (l1 := [_]) hap10 ho10 (fun hx o => markGoal_spec _ o (by omega) (by omega)) fun H11 hap11 ho11 => ?_
 refine call_read hap11 (heldGoal_spec _ (Owns.rep (l1 := [_]) hap11 ho11) (by omega) (by omega)) ?_
 refine ifd (fun h => by omega) (fun _ => ?_)
 refine ifnd (fun h => absurd rfl h) (fun _ => ?_)
 refine cDa hap11 (toGoal_spec t0 h0 hb0) fun u12 μ12 hle12 hap12 hf12 => ?_
 replace h0 := h0.mono hle12
 replace hw := hw.mono hle12
 obtain ⟨qq13, rfl⟩ := Gl.invV hf12.rep
 have o0 := hf12.rep
 refine cDa hap12 ((impl_SimplifyGoal_spec o0).weaken fun v μ' _ h => simp_fresh h) fun u14 μ14 hle14 hap14 hR => ?_
 replace h0 := h0.mono hle14
 replace hw := hw.mono hle14
 replace o0 := o0.mono hle14
 obtain ⟨h0, rfl, hh0⟩ := hR
 obtain ⟨qq15, rfl⟩ := Gl.invV hh0.rep
 have hh := hh0.rep
 intro rh0
 refine call_read hap14 (eqGoal_spec _ (hh.mono (Mem.le_join _ _)) (hw.mono (Mem.le_join _ _))) ?_
 refine iIn (fun h => nomatch h) (fun _ => ?_)
 refine call_read hap14 (heldGoal_spec _ (Owns.rep (l1 := [_]) hap14 ho11) (by omega) (by omega)) ?_
 refine ifd (fun h => by omega) (fun _ => ?_)
 refine ifnd (fun h => absurd rfl h) (fun _ => ?_)
 exact rPl rfl
end
end Go.Vx
