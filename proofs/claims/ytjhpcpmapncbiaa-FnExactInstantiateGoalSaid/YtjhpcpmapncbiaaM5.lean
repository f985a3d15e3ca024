/- Texts of the proof, part 5: Xk. -/
import Derived.Test.YtjhpcpmapncbiaaM4
/- The law on goals instantiated. -/
namespace Go.Vx
open Go.Proofs Classical
section
variable {μ : Mem}
theorem gl_cnt_sz : ∀ g : Gl, g.d.cnt ≤ 3 + 3 * g.d.sz :=
  Gl.ind fun g ih => by
    have h1 := tms_cnt g.terms
    have h2 : D.cnts (g.goals.map Gl.d) ≤ 3 * g.goals.length + 3 * D.szs (g.goals.map Gl.d) := by
      generalize g.goals = l at ih
      induction l with
      | nil => simp [D.cnts, D.szs]
      | cons t l ih2 =>
        have h1 := ih t (by simp)
        have h2 := ih2 fun t ht => ih t (by simp [ht])
        simp only [List.map_cons, D.cnts, D.szs, List.length_cons]; omega
    rw [Gl.cnt_eq, Gl.sz_eq]; omega
theorem gl_mt (g : Gl) (k : Int) : (g.d.mt k).2 = k + (D.cnts (g.terms.map Tm.d) + D.cnts (g.goals.map Gl.d)) := by
  rw [Gl.mt_eq]
  have h1 := D.mks_cnt (g.terms.map Tm.d) k
  have h2 := D.mks_cnt (g.goals.map Gl.d) (D.mks (g.terms.map Tm.d) k).2
  dsimp only
  omega
/-- The goal of an answer. -/
def resGl : Option Gl → Gl
  | some y => y
  | none => .mk 0 ⟨#[]⟩ [] []
theorem zeroG_own : OwnV (resGl none).d Mem.nil (.agg #[.int .i64 0, .string ⟨#[]⟩, .slice none 0 0, .slice none 0 0]) := by
  rw [resGl, Gl.d_eq]
  exact ⟨_, rfl, OwnS.int (OwnS.str (OwnS.cons (c1 := [_]) (Parts.nil_left _) (Own.nilSl 4) (OwnS.last (Own.nilSl 4))))⟩
theorem optG_rep {μ : Mem} {o : Option Gl} {v : Value} (h : optG (fun y tv => RepV μ y.d tv) o v) : ∃ tv, v = .tuple #[tv, .bool o.isSome] ∧ RepV μ (resGl o).d tv := by
  cases o with
  | some y => obtain ⟨tv, rfl, h⟩ := h; exact ⟨tv, rfl, h⟩
  | none => exact ⟨_, h, zeroG_own.rep (fun _ _ h => nomatch h)⟩
theorem optG_fresh {μ μ' : Mem} {o : Option Gl} {v : Value} (h : optG (fun y tv => Fresh μ μ' y.d tv) o v) : ∃ tv, v = .tuple #[tv, .bool o.isSome] ∧ Fresh μ μ' (resGl o).d tv := by
  cases o with
  | some y => obtain ⟨tv, rfl, h⟩ := h; exact ⟨tv, rfl, h⟩
  | none => exact ⟨_, h, Mem.nil, zeroG_own, (fun _ _ h => nomatch h), fun _ h => absurd rfl h⟩
theorem Gl.Sh.lens {g : Gl} (h : g.Sh) : g.terms.length ≤ 4 := by
  have T := h.top
  have e9 := T.ln9; have e2 := T.ln2; have e1 := T.ln1; have e0 := T.ln0; have k0 := T.k0; have k1 := T.k1
  omega
theorem gl_cnts_ok : ∀ g : Gl, g.Sh → g.d.cnt ≤ 60002 * g.cnt :=
  Gl.ind fun g ih h => by
    have h1 := tms_cnt2 g.terms fun t ht => (h.top.tm t ht).2
    have h0 := h.lens
    have h2 : D.cnts (g.goals.map Gl.d) ≤ 60002 * Gl.cnts g.goals := by
      have hs := h.sub
      generalize g.goals = l at ih hs
      induction l with
      | nil => simp [D.cnts]
      | cons t l ih2 =>
        have h1 := ih t (by simp) (hs t (by simp))
        have h2 := ih2 (fun t ht => ih t (by simp [ht])) fun t ht => hs t (by simp [ht])
        simp only [List.map_cons, D.cnts, Gl.cnts]; omega
    rw [Gl.cnt_eq, Gl.cnt_eq1]; omega
theorem instG_size (g : Gl) (l : List Bd) : (resGl (instG g l)).d.cnt ≤ 10000000 := by
  unfold instG
  split
  · rename_i h
    obtain ⟨bs, rfl, hbs⟩ := h.2.vals
    rw [B.map_b]
    rcases Gl.with_put hbs.tok g h.1.1 with k | k
    · rw [k.2]
      have h1 := gl_cnts_ok _ k.1
      rw [Gl.cnt_put] at h1
      have h2 := h.1.2
      show (g.put (sub bs)).d.cnt ≤ _
      omega
    · rw [k.2, resGl, Gl.cnt_eq]; simp [Gl.terms, Gl.goals, D.cnts]
  · rw [resGl, Gl.cnt_eq]; simp [Gl.terms, Gl.goals, D.cnts]
set_option maxHeartbeats 4000000 in
theorem FnExactInstantiateGoal_spec {t0 : Gl} {v0 : Value} {t1 : List Bd} {v1 : Value} (h0 : RepV μ t0.d v0) (h1 : RepV μ (.sl 5 (t1.map Bd.d)) v1) (w0 : t0.d.wd) (w1 : D.wds (t1.map Bd.d)) :
    Spec Try.prog 6 [v0, v1] μ fun r _ => r = .bool true := by
  obtain ⟨p0, rfl⟩ := Gl.invV h0
  obtain ⟨b1, c1, rfl, s1⟩ := Rep.sl h1
  rw [List.length_map] at s1 ⊢
  refine Spec.mk Try.func6 (by kernel_rfl) ?_
  intro r0
  refine call_gives (szGoal_spec t0 h0 (by omega) (by omega) w0) ?_
  refine ifd (fun h => ret_plain rfl) (fun h => ?_)
  have q0 := szR_ge h
  rw [szR_pos q0] at h ⊢
  refine call_gives (szBindingS_spec s1 (by omega) (by omega) w1) ?_
  refine ifd (fun h => ret_plain rfl) (fun h => ?_)
  have q1 := szR_ge h
  rw [szR_pos q1] at h
  have hb0 : t0.d.sz ≤ 1048576 := by omega
  have hb1 : t1.length + D.szs (t1.map Bd.d) ≤ 1048576 := by omega
  refine call_plain (toGoal_spec t0 h0 hb0) fun u1 μ1 hle1 hf1 => ?_
  replace h0 := h0.mono hle1
  replace s1 := s1.mono hle1
  obtain ⟨qq2, rfl⟩ := Gl.invV hf1.rep
  have a0 := hf1.rep
  refine call_plain (toBindingS_spec s1 hb1) fun u3 μ3 hle3 hf3 => ?_
  replace h0 := h0.mono hle3
  replace s1 := s1.mono hle3
  replace a0 := a0.mono hle3
  obtain ⟨bb4, cc4, rfl, a1⟩ := Rep.sl hf3.rep
  rw [List.length_map] at a1 ⊢
  refine call_plain (spec_InstantiateGoal_spec a0 w0 a1 w1) fun u5 μ5 hle5 hR => ?_
  replace h0 := h0.mono hle5
  replace s1 := s1.mono hle5
  replace a0 := a0.mono hle5
  replace a1 := a1.mono hle5
  obtain ⟨w0, rfl, hw0⟩ := optG_rep hR
  obtain ⟨qq6, rfl⟩ := Gl.invV hw0
  have hw := hw0
  intro rw0
  refine call_new id (apart_nil _) Owns.none ((toGoal_spec t0 (h0.mono (Mem.le_join _ _)) hb0).weaken fun v μ' _ h => ⟨v, rfl, h⟩) fun x0 μ7 H7 hle7 hap7 ho7 => ?_
  replace h0 := h0.mono hle7
  replace s1 := s1.mono hle7
  replace hw := hw.mono hle7
  obtain ⟨qq8, rfl⟩ := Gl.invV (Owns.rep (l1 := []) hap7 ho7)
  have xx0 := (Owns.rep (l1 := []) hap7 ho7)
  intro rx0
  refine call_new id hap7 ho7 ((toBindingS_spec (s1.mono (Mem.le_join _ _)) hb1).weaken fun v μ' _ h => ⟨v, rfl, h⟩) fun x1 μ9 H9 hle9 hap9 ho9 => ?_
  replace h0 := h0.mono hle9
  replace s1 := s1.mono hle9
  replace hw := hw.mono hle9
  obtain ⟨bb10, cc10, rfl, xx1⟩ := Rep.sl (Owns.rep (l1 := [_]) hap9 ho9)
  rw [List.length_map] at xx1 ho9 ⊢
  obtain ⟨bn13, cn13, en13, ya12⟩ := Rep.sl (Owns.rep (l1 := [_]) hap9 ho9)
  rw [List.length_map] at ya12 en13
  obtain ⟨rfl, _, rfl⟩ := Value.slice.inj en13
  refine call_new (fun gv => .tuple #[gv, .bool (instG t0 t1).isSome]) hap9 ho9 ((impl_InstantiateGoal_spec (Owns.rep (l1 := []) hap9 ho9) ya12).weaken fun v μ' _ h => optG_fresh h) fun g0 μ11 H11 hle11 hap11 ho11 => ?_
  replace h0 := h0.mono hle11
  replace s1 := s1.mono hle11
  replace hw := hw.mono hle11
  obtain ⟨qq14, rfl⟩ := Gl.invV (Owns.rep (l1 := [_, _]) hap11 ho11)
  have gg := (Owns.rep (l1 := [_, _]) hap11 ho11)
  intro rg0
  refine call_read hap11 (eqGoal_spec _ (Owns.rep (l1 := [_, _]) hap11 ho11) (hw.mono (Mem.le_join _ _))) ?_
  refine if_intro (fun h => nomatch h) (fun _ => ?_)
  refine if_intro (fun h => absurd h (by simp)) (fun _ => ?_)
  refine call_data hap11 (toGoal_spec t0 h0 hb0) fun u15 μ15 hle15 hap15 hf15 => ?_
  replace h0 := h0.mono hle15
  replace s1 := s1.mono hle15
  replace hw := hw.mono hle15
  refine call_read hap15 (eqGoal_spec t0 (Owns.rep (l1 := []) hap15 ho11) (hf15.rep.mono (Mem.le_join _ _))) ?_
  refine if_intro (fun h => nomatch h) (fun _ => ?_)
  refine call_data hap15 (toBindingS_spec s1 hb1) fun u16 μ16 hle16 hap16 hf16 => ?_
  replace h0 := h0.mono hle16
  replace s1 := s1.mono hle16
  replace hw := hw.mono hle16
  obtain ⟨bb17, cc17, rfl, z1⟩ := Rep.sl hf16.rep
  rw [List.length_map] at z1 ⊢
  obtain ⟨bn19, cn19, en19, yb18⟩ := Rep.sl (Owns.rep (l1 := [_]) hap16 ho11)
  rw [List.length_map] at yb18 en19
  obtain ⟨rfl, _, rfl⟩ := Value.slice.inj en19
  refine call_read hap16 (eqBindingS_spec yb18 (z1.mono (Mem.le_join _ _))) ?_
  refine if_intro (fun h => nomatch h) (fun _ => ?_)
  have ca0 := gl_cnt_sz t0
  rw [Gl.cnt_eq] at ca0
  have ma0 := gl_mt t0 (1)
  have ca1 := bds_cnt t1
  have ma1 := D.mks_cnt (t1.map Bd.d) ((t0.d.mt (1)).2)
  have rz := instG_size t0 t1
  rw [Gl.cnt_eq] at rz
  have mg := gl_mt (resGl (instG t0 t1)) 1
  refine call_mark (l1 := []) hap16 ho11 (fun hx o => markGoal_spec t0 o (by omega) (by omega)) fun H20 hap20 ho20 => ?_
  refine call_mark (l1 := [_]) hap20 ho20 (fun hx o => markBindingS_spec o (by omega) (by omega)) fun H21 hap21 ho21 => ?_
  refine ifd (fun h => by omega) (fun _ => ?_)
  refine call_read hap21 (eqGoal_spec _ (Owns.rep (l1 := [_, _]) hap21 ho21) (hw.mono (Mem.le_join _ _))) ?_
  refine if_intro (fun h => nomatch h) (fun _ => ?_)
  refine if_intro (fun h => absurd h (by simp)) (fun _ => ?_)
  refine call_mark (l1 := [_, _]) hap21 ho21 (fun hx o => markGoal_spec _ o (by omega) (by omega)) fun H22 hap22 ho22 => ?_
  refine call_read hap22 (heldGoal_spec _ (Owns.rep (l1 := [_, _]) hap22 ho22) (by omega) (by omega)) ?_
  refine ifd (fun h => by omega) (fun _ => ?_)
  refine ifnd (fun h => absurd rfl h) (fun _ => ?_)
  refine call_data hap22 (toGoal_spec t0 h0 hb0) fun u23 μ23 hle23 hap23 hf23 => ?_
  replace h0 := h0.mono hle23
  replace s1 := s1.mono hle23
  replace hw := hw.mono hle23
  obtain ⟨qq24, rfl⟩ := Gl.invV hf23.rep
  have o0 := hf23.rep
  refine call_data hap23 (toBindingS_spec s1 hb1) fun u25 μ25 hle25 hap25 hf25 => ?_
  replace h0 := h0.mono hle25
  replace s1 := s1.mono hle25
  replace hw := hw.mono hle25
  replace o0 := o0.mono hle25
  obtain ⟨bb26, cc26, rfl, o1⟩ := Rep.sl hf25.rep
  rw [List.length_map] at o1 ⊢
  refine call_data hap25 ((impl_InstantiateGoal_spec o0 o1).weaken fun v μ' _ h => optG_fresh h) fun u27 μ27 hle27 hap27 hR => ?_
  replace h0 := h0.mono hle27
  replace s1 := s1.mono hle27
  replace hw := hw.mono hle27
  replace o0 := o0.mono hle27
  replace o1 := o1.mono hle27
  obtain ⟨h0, rfl, hh0⟩ := hR
  obtain ⟨qq28, rfl⟩ := Gl.invV hh0.rep
  have hh := hh0.rep
  intro rh0
  refine call_read hap27 (eqGoal_spec _ (hh.mono (Mem.le_join _ _)) (hw.mono (Mem.le_join _ _))) ?_
  refine if_intro (fun h => nomatch h) (fun _ => ?_)
  refine if_intro (fun h => absurd h (by simp)) (fun _ => ?_)
  refine call_read hap27 (heldGoal_spec _ (Owns.rep (l1 := [_, _]) hap27 ho22) (by omega) (by omega)) ?_
  refine ifd (fun h => by omega) (fun _ => ?_)
  refine ifnd (fun h => absurd rfl h) (fun _ => ?_)
  exact ret_plain rfl
end
end Go.Vx
