/- Every operation, and lists of them. -/
import Derived.Test.YtjgohkogcdmbdaaVxH
namespace Go.Vx
section
variable {C : Cx} {E : Ent} {s : St} {a : Act} {w : World}

theorem alloc_heap_new (w : World) (o : Obj) : (w.alloc o).heap[w.heap.size]? = some o := heap_alloc_new w o
theorem srcK_sound (hR : Rel E a w s) {es : Nat} {y : SV} (hy : svOk s y) {K : List Value → Prop} (h : srcK s es y K) :
    ∃ ys src c, K ys ∧ y.conc = .slice src ys.length c ∧ (∀ y ∈ ys, (vcells y).length = es ∧ ∀ u ∈ vcells y, u.oneCell' = true) ∧
      (ys = [] ∨ ∃ a, src = some a ∧ ∀ j v, (ys.flatMap vcells)[j]? = some v → w.cell? (a.add j) = some v) := by
  have frozen : ∀ (src : Option Addr) (n c : Nat) (h : srcVC s.mem src n es K), ∃ ys, K ys ∧ Value.slice src n c = .slice src ys.length c ∧ (∀ y ∈ ys, (vcells y).length = es ∧ ∀ u ∈ vcells y, u.oneCell' = true) ∧
      (ys = [] ∨ ∃ a, src = some a ∧ ∀ j v, (ys.flatMap vcells)[j]? = some v → w.cell? (a.add j) = some v) := by
    intro src n c h
    obtain ⟨ys, ⟨hl, hc, hs⟩, hk⟩ := src_elim h
    refine ⟨ys, hk, by rw [hl], hc, ?_⟩
    rcases hs with h0 | ⟨ad, ha, hj⟩
    · exact .inl (List.eq_nil_of_length_eq_zero (by omega))
    · exact .inr ⟨ad, ha, fun j v hv => hR.sees.1.cell (hj j v hv)⟩
  unfold srcK at h
  split at h
  · rename_i tag base n cap
    split at h
    · rename_i b' c' ty es' ys hlb
      split at h
      · rename_i hes
        have hes := Nat.eq_of_beq_eq_true hes
        subst hes
        obtain ⟨_, hy2⟩ := hy
        obtain ⟨_, _, _, e, hn⟩ := hy2 _ hlb
        cases e
        have hfit := hR.sees.2 _ _ hlb
        cases base with
        | none =>
          obtain ⟨rfl, rfl⟩ := hfit
          exact ⟨[], none, 0, h, by simp [SV.conc, hn], by simp, .inl rfl⟩
        | some r =>
          obtain ⟨_, _, hxs, arr, hg, hsz, htk⟩ := hfit
          refine ⟨ys, some ⟨r, 0, none⟩, cap, h, by simp [SV.conc, hn], hxs, .inr ⟨_, rfl, fun j v hj => ?_⟩⟩
          rw [Addr.add_lit', Nat.zero_add]
          rw [← htk, List.getElem?_take] at hj
          split at hj
          · simp only [World.cell?, hg]
            simpa using hj
          · cases hj
      · exact h.elim
    · exact h.elim
    · obtain ⟨ys, h1, h2, h3, h4⟩ := frozen _ _ cap h
      exact ⟨ys, _, cap, h1, h2, h3, h4⟩
  · rename_i src n c
    obtain ⟨ys, h1, h2, h3, h4⟩ := frozen _ _ c h
    exact ⟨ys, _, c, h1, h2, h3, h4⟩
  · exact h.elim
theorem appendK_sound (htt : TTok C.P C.tt) (hR : Rel E a w s) {t ty : TypeId} {x y : SV} (hx : svOk s x) (hy : svOk s y) {K : SV → St → Prop} (h : appendK C s t x y K) :
    ∃ sv s' w', K sv s' ∧ svOk s' sv ∧ Rel E a w' s' ∧ (Builtin.append_ #[t, t] ty #[x.conc, y.conc]).run C.P w = .ok sv.conc w' ∧ Evo w s w' s' (match x with | .row t _ _ _ => [t] | _ => []) false := by
  obtain ⟨ti, h1, h2⟩ := tyK_spec h
  have hk := (htt.get h1).kind
  split at h2
  case h_2 => exact h2.elim
  rename_i e hkk
  rw [hkk] at hk
  obtain ⟨te, h3, h4⟩ := tyK_spec h2
  have he := htt.get h3
  obtain ⟨hpos, h4⟩ := posK_spec h4
  obtain ⟨ys, src, c, h5, hyc, hys, hsrc⟩ := srcK_sound hR hy h4
  split at h5
  · rename_i tag base n cap _
    split at h5
    case h_2 => exact h5.elim
    rename_i b' c' ety es xs hlb
    split at h5
    case h_2 => exact h5.elim
    rename_i he1 he2
    have he1 := Nat.eq_of_beq_eq_true he1
    have he2 := Nat.eq_of_beq_eq_true he2
    subst he1 he2
    obtain ⟨hx1, hx2⟩ := hx
    obtain ⟨_, _, _, e, hn⟩ := hx2 _ hlb
    obtain rfl : b' = base := by cases e; rfl
    obtain rfl : c' = cap := by cases e; rfl
    obtain rfl : n = xs.length := by cases e; exact hn
    clear e hn
    obtain ⟨hby, hmax, h6⟩ := grow_elim h5
    obtain ⟨base', cap', w', hrun, hfit, hblk, hkeep, hsize, hos, htape, hout, hnil⟩ := run_append_row (ty := ty) hk he hpos w b' c' xs ys (hR.sees.2 _ _ hlb) src c hys hsrc hby hmax
    have h7 := h6 base' cap' hnil
    rw [fadeK_eq, setBK_eq] at h7
    have hRf := hR.fade tag
    have hlbf : (s.fade tag).lb tag = some (.row b' c' ety te.size xs) := by rw [lb_fade, hlb]; rfl
    have hfree : ∀ i sv, look (s.fade tag).env i = some sv → sv.free tag := fun i sv h => by
      simp only [St.fade, look_fadeEnv] at h
      cases hs : look s.env i with
      | none => simp [hs] at h
      | some z => simp only [hs, Option.map_some, Option.some.injEq] at h; subst h; exact SV.fade_free tag z
    have hfreeC : ∀ u r cs ty, (s.fade tag).lb u = some (.cells r cs ty) → ∀ sv ∈ cs, sv.free tag := fun u r cs ty h sv hsv => by
      rw [lb_fade] at h
      cases hs : s.lb u with
      | none => simp [hs] at h
      | some z =>
        simp only [hs, Option.map_some, Option.some.injEq] at h
        cases z <;> simp only [LB.fade] at h <;> cases h
        rw [fadeCells_eq] at hsv
        obtain ⟨z, _, rfl⟩ := List.mem_map.1 hsv
        exact SV.fade_free tag z
    have hrow : ∃ b c y e x, (LB.row b' c' ety te.size xs) = .row b c y e x := ⟨_, _, _, _, _, rfl⟩
    refine ⟨_, _, w', h7, ⟨hRf.nxt _ _ hlbf, fun lb h => ?_⟩, ?_, ?_⟩
    · rw [lb_setB, if_pos rfl] at h
      cases h
      exact ⟨_, _, _, rfl, rfl⟩
    · refine hRf.change tag _ (fun k => lb_setB _ tag _ k) rfl rfl (Nat.le_refl _) (hRf.nxt _ _ hlbf) (fun i sv h => ?_) (fun u r cs ty h sv hsv => ?_) hfit (fun r hr => ?_) (fun b hb hnb => hkeep b hb ?_) hsize hos htape hout
      · obtain ⟨h1, h2⟩ := hRf.env i sv h
        exact ⟨h1, svOk_setRow hlbf hrow (hfree i sv h) h2⟩
      · rw [lb_setB] at h
        split at h
        · cases h
        · exact svOk_setRow hlbf hrow (hfreeC u r cs ty h sv hsv) (hRf.cells u r cs ty h sv hsv)
      · rcases hblk r hr with h | h
        · exact .inl ⟨_, hlbf, h⟩
        · exact .inr h
      · exact fun e => hnb _ hlbf e
    · rw [hyc]
      refine ⟨by simp only [SV.conc, List.length_append]; exact hrun, fun b hb h _ => hkeep b hb (h tag (by simp) _ hlb), hsize, Mem.Le.refl _, fun r hr h1 h0 h2 => ⟨h1, h0, fun u lb2 h hr' => ?_⟩, fun _ => rfl, Nat.le_refl _, fun u lb2 _ h9 => ?_, fun d sv h => ?_, fun u r cs ty h9 => .inl ?_⟩
      · rw [lb_setB] at h
        split at h
        · cases h
          rcases hblk r hr' with h | h
          · exact h2 tag _ hlb h
          · omega
        · rw [lb_fade] at h
          cases hs : s.lb u with
          | none => simp [hs] at h
          | some z =>
            simp only [hs, Option.map_some, Option.some.injEq] at h
            subst h
            rw [LB.fade_blk] at hr'
            exact h2 u z hs hr'
      · rw [lb_setB] at h9
        split at h9
        · rename_i e
          subst e
          cases h9
          exact ⟨_, hlb, .inr ⟨by simp, ⟨_, _, _, _, _, rfl⟩, _, _, _, _, _, rfl⟩⟩
        · rw [lb_fade] at h9
          cases hs : s.lb u with
          | none => simp [hs] at h9
          | some z =>
            simp only [hs, Option.map_some, Option.some.injEq] at h9
            subst h9
            exact ⟨z, rfl, .inl (by cases z <;> simp [LB.fade, LB.alike])⟩
      · simp only [St.setB, St.fade, look_fadeEnv] at h
        cases hs : look s.env d with
        | none => simp [hs] at h
        | some z =>
          simp only [hs, Option.map_some, Option.some.injEq] at h
          subst h
          have : z.fade tag = z ∨ ∃ v, z.fade tag = .val v := by
            cases z <;> simp only [SV.fade] <;> first
              | exact .inl trivial
              | (split
                 · exact .inr ⟨_, rfl⟩
                 · exact .inl rfl)
          rcases this with e | e
          · exact .inl (by rw [e])
          · exact .inr ⟨e, by simp⟩
      · rw [lb_setB]
        split
        · rename_i e
          subst e
          rw [hlb] at h9
          cases h9
        · refine ⟨fadeCells tag cs, ty, ?_⟩
          rw [lb_fade, h9]
          rfl
  · obtain ⟨hby, hmax, h6⟩ := grow_elim h5
    obtain ⟨base', cap', w', hrun, hfit, hblk, hkeep, hsize, hos, htape, hout, hnil⟩ := run_append_row (ty := ty) hk he hpos w none 0 [] ys ⟨rfl, rfl⟩ src c hys hsrc (by simpa using hby) (by simpa using hmax)
    have h7 := h6 base' cap' (fun h => by simpa using hnil h)
    rw [newBK_eq] at h7
    refine ⟨_, _, w', h7, ⟨Nat.lt_succ_self _, fun lb h => ?_⟩, ?_, ?_⟩
    · rw [lb_newB, if_pos rfl] at h
      cases h
      exact ⟨_, _, _, rfl, rfl⟩
    · refine hR.change s.nxt _ (fun k => lb_newB s _ k) rfl rfl (Nat.le_succ _) (Nat.lt_succ_self _) (fun i sv h => ?_) (fun u r cs ty h sv hsv => ?_) (by simpa using hfit) (fun r hr => ?_) (fun b hb _ => hkeep b hb (by simp)) hsize hos htape hout
      · obtain ⟨h1, h2⟩ := hR.env i sv h
        exact ⟨h1, svOk_newB h2⟩
      · rw [lb_newB] at h
        split at h
        · cases h
        · exact svOk_newB (hR.cells u r cs ty h sv hsv)
      · rcases hblk r hr with h | h
        · cases h
        · exact .inr h
    · rw [hyc]
      refine ⟨by simpa [SV.conc] using hrun, fun b hb _ _ => hkeep b hb (by simp), hsize, Mem.Le.refl _, fun r hr h1 h0 h2 => ⟨h1, h0, fun u lb2 h hr' => ?_⟩, fun _ => rfl, Nat.le_succ _, fun u lb2 hu h9 => ⟨lb2, by rw [lb_newB, if_neg (by omega)] at h9; exact h9, .inl lb2.alike_refl⟩, fun d sv h => .inl h, fun u r cs ty h => .inl ⟨cs, ty, by rw [lb_newB, if_neg (by have := hR.nxt _ _ h; omega)]; exact h⟩⟩
      rw [lb_newB] at h
      split at h
      · cases h
        rcases hblk r hr' with h | h
        · cases h
        · omega
      · exact h2 u lb2 h hr'
  · exact h5.elim
/-- Frozen data are seen as data from then on. -/
theorem frz_sound : ∀ (fz : List Nat) (s : St) (K : St → Prop), Rel E a w s → frzVC fz s K → ∃ s', K s' ∧ Rel E a w s' ∧ Evo w s w s' [] false
  | [], s, K, hR, h => ⟨s, h, hR, Evo.refl _ _ _ _⟩
  | t :: ts, s, K, hR, h => by
    have one : ∀ (lb : LB) (μ' : Mem), s.lb t = some lb → s.mem.Le μ' → (∀ b, μ' b = if lb.blk? = some b then w.heap[b]? else s.mem b) → Rel E a w { s with mem := μ', blk := (t, none) :: s.blk } := by
      intro lb μ' hlb hle hμ
      have hext : ∀ sv, svOk s sv → svOk { s with mem := μ', blk := (t, none) :: s.blk } sv := fun sv hsv => svOk_ext (s := s) (Nat.le_refl _) hle (fun u lb' _ hl => by
        rw [lb_kill] at hl
        split at hl
        · cases hl
        · exact ⟨lb', hl, lb'.alike_refl⟩) hsv
      have hl2 : ∀ {u lb'}, St.lb { s with mem := μ', blk := (t, none) :: s.blk } u = some lb' → u ≠ t ∧ s.lb u = some lb' := fun {u lb'} h => by
        rw [lb_kill] at h
        split at h
        · cases h
        · rename_i hu; exact ⟨hu, h⟩
      have hplace := fun r hr => hR.place t lb r hlb hr
      refine ⟨hR.defers, hR.size, fun i sv h => ?_, fun u r cs ty h sv hsv => ?_, ⟨fun b o hb => ?_, fun u lb' h => ?_⟩, fun u lb' h => ?_, fun u lb' r h hr => ?_, fun u u' lb1 lb2 r h h' hr hr' => ?_, ⟨hR.own.1, fun b hb => ?_⟩, fun b o hb => hle _ _ (hR.mono _ _ hb), fun b hb0 hb => ?_, hR.grow, hR.keep, hR.os, hR.tape, hR.output⟩
      · obtain ⟨h1, h2⟩ := hR.env i sv h
        exact ⟨h1, hext _ h2⟩
      · exact hext _ (hR.cells u r cs ty (hl2 h).2 sv hsv)
      · simp only at hb
        rw [hμ] at hb
        split at hb
        · exact hb
        · exact hR.sees.1 b o hb
      · exact hR.sees.2 _ _ (hl2 h).2
      · exact hR.nxt _ _ (hl2 h).2
      · obtain ⟨h1, h2⟩ := hl2 h
        obtain ⟨h3, h4, h5⟩ := hR.place _ _ _ h2 hr
        refine ⟨?_, h4, h5⟩
        simp only
        rw [hμ, if_neg (fun e => h1 (hR.sep _ _ _ _ _ h2 hlb hr e))]
        exact h3
      · exact hR.sep _ _ _ _ _ (hl2 h).2 (hl2 h').2 hr hr'
      · obtain ⟨h1, h2⟩ := hR.own.2 b hb
        refine ⟨?_, h2⟩
        simp only
        rw [hμ, if_neg (fun e => hb (hplace b e).2.1)]
        exact h1
      · simp only at hb
        rw [hμ] at hb
        split at hb
        · rename_i e; exact (hplace b e).2.2
        · exact hR.fresh b hb0 hb
    have mk : ∀ lb, s.lb t = some lb → ∃ μ' : Mem, s.mem.Le μ' ∧ (∀ b, μ' b = if lb.blk? = some b then w.heap[b]? else s.mem b) := fun lb hlb =>
      ⟨fun b => if lb.blk? = some b then w.heap[b]? else s.mem b, fun b o hb => by
        simp only
        rw [if_neg (fun e => by have := (hR.place t lb b hlb e).1; simp [hb] at this)]
        exact hb, fun _ => rfl⟩
    have evo : ∀ (lb : LB) (μ' : Mem) (s' : St), s.lb t = some lb → s.mem.Le μ' → (∀ b, μ' b = if lb.blk? = some b then w.heap[b]? else s.mem b) → Evo w { s with mem := μ', blk := (t, none) :: s.blk } w s' [] false → Evo w s w s' [] false := by
      intro lb μ' s' hlb hle hμ h
      refine ⟨fun _ _ _ _ => rfl, Nat.le_refl _, hle.trans h.le, fun r hr h1 h0 h2 => h.out r hr ?_ h0 (fun u lb2 h3 => ?_), h.own, h.nxt, fun u lb2 hu h3 => ?_, h.envs, fun u r cs ty h3 => ?_⟩
      · simp only
        rw [hμ, if_neg (h2 t lb hlb)]
        exact h1
      · rw [lb_kill] at h3
        split at h3
        · cases h3
        · exact h2 u lb2 h3
      · obtain ⟨lb3, h4, h5⟩ := h.stay u lb2 hu h3
        rw [lb_kill] at h4
        split at h4
        · cases h4
        · exact ⟨lb3, h4, h5⟩
      · by_cases hu : u = t
        · subst hu
          rw [hlb] at h3
          cases h3
          have hf : w.heap[r]? = some (.cells (cs.map SV.conc).toArray ty (0, 0)) := hR.sees.2 _ _ hlb
          have hm : μ' r = some (.cells (cs.map SV.conc).toArray ty (0, 0)) := by rw [hμ, if_pos (by simp [LB.blk?])]; exact hf
          exact .inr (by rw [h.le _ _ hm]; simp)
        · exact h.alive u r cs ty (by rw [lb_kill, if_neg hu]; exact h3)
    simp only [frzVC] at h
    split at h
    · rename_i r cs ty hlb
      obtain ⟨μ', hle, hμ⟩ := mk _ hlb
      rw [concsK_eq] at h
      have hfit : w.heap[r]? = some (.cells (cs.map SV.conc).toArray ty (0, 0)) := hR.sees.2 _ _ hlb
      have h2 := h μ' hle (hR.place t _ r hlb rfl).1 (by rw [hμ, if_pos (by simp [LB.blk?])]; exact hfit)
      rw [killK_eq] at h2
      obtain ⟨s', h3, h4, h5⟩ := frz_sound ts _ K (one _ μ' hlb hle hμ) h2
      exact ⟨s', h3, h4, evo _ μ' s' hlb hle hμ h5⟩
    · rename_i base cap ty es xs hlb
      obtain ⟨μ', hle, hμ⟩ := mk _ hlb
      have hfit := hR.sees.2 _ _ hlb
      have h2 := h μ' hle (fun r hr => (hR.place t _ r hlb hr).1) (by
        cases base with
        | none => exact hfit.1
        | some r =>
          obtain ⟨h1, _, h3, arr, h4, h5, h6⟩ := hfit
          exact ⟨h1, h3, arr, ty, by rw [hμ, if_pos (by simp [LB.blk?])]; exact h4, h5, h6⟩)
      rw [killK_eq] at h2
      obtain ⟨s', h3, h4, h5⟩ := frz_sound ts _ K (one _ μ' hlb hle hμ) h2
      exact ⟨s', h3, h4, evo _ μ' s' hlb hle hμ h5⟩
    · exact h.elim
/-- Locals that become owned memory. -/
theorem give_sound : ∀ (gv : List Nat) (s : St) (K : St → Prop), Rel E a w s → giveVC gv s K → ∃ s', K s' ∧ Rel E a w s'
  | [], s, K, hR, h => ⟨s, h, hR⟩
  | t :: ts, s, K, hR, h => by
    have one : ∀ (lb : LB) (h' : Mem), s.lb t = some lb → (∀ b, h' b = if lb.blk? = some b then w.heap[b]? else s.own b) → Rel E a w { s with own := h', blk := (t, none) :: s.blk } := by
      intro lb h' hlb hh
      have hkl : ∀ {u lb'}, St.lb { s with own := h', blk := (t, none) :: s.blk } u = some lb' → u ≠ t ∧ s.lb u = some lb' := fun {u lb'} g => by
        have : St.lb { s with own := h', blk := (t, none) :: s.blk } u = if u = t then none else s.lb u := lb_kill s t s.mem u
        rw [this] at g
        split at g
        · cases g
        · rename_i hu; exact ⟨hu, g⟩
      have hext : ∀ sv, svOk s sv → svOk { s with own := h', blk := (t, none) :: s.blk } sv := fun sv hsv => svOk_ext (s := s) (Nat.le_refl _) (Mem.Le.refl _) (fun u lb' _ hl => ⟨lb', (hkl hl).2, lb'.alike_refl⟩) hsv
      have hplace := fun r hr => hR.place t lb r hlb hr
      refine ⟨hR.defers, hR.size, fun i sv g => ⟨(hR.env i sv g).1, hext _ (hR.env i sv g).2⟩, fun u r cs ty g sv hsv => hext _ (hR.cells u r cs ty (hkl g).2 sv hsv), ⟨hR.sees.1, fun u lb' g => hR.sees.2 _ _ (hkl g).2⟩, fun u lb' g => hR.nxt _ _ (hkl g).2, fun u lb' r g hr => ?_,
        fun u u' lb1 lb2 r g g' hr hr' => hR.sep _ _ _ _ _ (hkl g).2 (hkl g').2 hr hr', ⟨fun b o hb => ?_, fun b hb => ?_⟩, hR.mono, hR.fresh, hR.grow, hR.keep, hR.os, hR.tape, hR.output⟩
      · obtain ⟨g1, g2⟩ := hkl g
        obtain ⟨h3, h4, h5⟩ := hR.place _ _ _ g2 hr
        refine ⟨h3, ?_, h5⟩
        simp only
        rw [hh, if_neg (fun e => g1 (hR.sep _ _ _ _ _ g2 hlb hr e))]
        exact h4
      · simp only at hb
        rw [hh] at hb
        split at hb
        · exact hb
        · exact hR.own.1 b o hb
      · simp only at hb
        rw [hh] at hb
        split at hb
        · rename_i e
          obtain ⟨h3, h4, h5⟩ := hplace b e
          exact ⟨h3, h5⟩
        · exact hR.own.2 b hb
    simp only [giveVC] at h
    split at h
    · rename_i r cs ty hlb
      rw [concsK_eq] at h
      have hfit : w.heap[r]? = some (.cells (cs.map SV.conc).toArray ty (0, 0)) := hR.sees.2 _ _ hlb
      obtain ⟨h1, h2, _⟩ := hR.place t _ r hlb rfl
      have h3 := h h1 h2
      have h4 : giveVC ts { s with own := s.own.set r (.cells (cs.map SV.conc).toArray ty (0, 0)), blk := (t, none) :: s.blk } K := by cases s; exact h3
      refine give_sound ts _ K (one _ _ hlb fun b => ?_) h4
      rw [Mem.set_get]
      by_cases e : b = r
      · subst e; rw [if_pos rfl, if_pos (by simp [LB.blk?])]; exact hfit.symm
      · rw [if_neg e, if_neg (fun h => e (by simpa [LB.blk?] using h.symm))]
    · rename_i base cap ty es xs hlb
      have hfit := hR.sees.2 _ _ hlb
      cases base with
      | none =>
        have h3 := h s.own (fun r hr => nomatch hr) ⟨hfit.1, rfl⟩
        have h4 : giveVC ts { s with own := s.own, blk := (t, none) :: s.blk } K := by cases s; exact h3
        exact give_sound ts _ K (one _ _ hlb fun b => by simp [LB.blk?]) h4
      | some r =>
        obtain ⟨g1, _, g3, arr, g4, g5, g6⟩ := hfit
        obtain ⟨h1, h2, _⟩ := hR.place t _ r hlb rfl
        have h3 := h (s.own.set r (.cells arr.toList.toArray ty (0, 0))) (fun r' hr => by cases hr; exact h1) ⟨h2, g1, g3, arr.toList, ty, rfl, by simpa using g5, g6⟩
        have h4 : giveVC ts { s with own := s.own.set r (.cells arr.toList.toArray ty (0, 0)), blk := (t, none) :: s.blk } K := by cases s; exact h3
        refine give_sound ts _ K (one _ _ hlb fun b => ?_) h4
        rw [Mem.set_get]
        by_cases e : b = r
        · subst e; rw [if_pos rfl, if_pos (by simp [LB.blk?])]; exact g4.symm
        · rw [if_neg e, if_neg (fun h => e (by simpa [LB.blk?] using h.symm))]
    · exact h.elim
end
end Go.Vx
