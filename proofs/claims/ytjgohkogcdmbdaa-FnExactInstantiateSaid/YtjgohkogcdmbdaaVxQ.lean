/- New variables in a drawn region; the induction. -/
import Derived.Test.YtjgohkogcdmbdaaVxP
namespace Go.Vx
section
variable {C : Cx} {E : Ent} {ops : Array Oper} {ml : List (Nat × Nat)} {ol : List Nat} {al : List Nat} {s0 : St}
variable {dirty : List Nat} {D A : Nat → Prop} {ρ : Nat → Nat} {s : St} {L : Array Bool} {a : Act} {w : World}

theorem Rel.allocW (hR : Rel E a w s) (o : Obj) : Rel E a (w.alloc o) s := by
  have hk : ∀ b, b < w.heap.size → (w.alloc o).heap[b]? = w.heap[b]? := fun b hb => Go.RowKit.Below.heap_alloc w o b hb
  refine ⟨hR.defers, hR.size, hR.env, hR.cells, ⟨fun b x hb => by rw [hk b (hR.sees.1.lt (by simp [hb]))]; exact hR.sees.1 b x hb, fun t lb h => LB.fits_congr (fun r hr => hk r (LB.fits_lt (hR.sees.2 t lb h) hr)) (hR.sees.2 t lb h)⟩, hR.nxt, hR.place, hR.sep, ⟨fun b x hb => by rw [hk b (hR.own.1.lt (by simp [hb]))]; exact hR.own.1 b x hb, hR.own.2⟩, hR.mono, hR.fresh, by have := hR.grow; simp; omega, fun b hb h0 => by rw [hk b (Nat.lt_of_lt_of_le hb hR.grow)]; exact hR.keep b hb h0, hR.os, hR.tape, hR.output⟩
theorem Rel.putFree (hR : Rel E a w s) {d : Nat} (hd : look s.env d = none) (v : Value) : Rel E (a.put (some d) v) w s := by
  refine { hR with size := by simp [Act.put, hR.size], env := fun i sv h => ⟨?_, (hR.env i sv h).2⟩ }
  simp only [Act.put, Array.getElem?_setIfInBounds]
  rw [if_neg (fun e => by subst e; rw [hd] at h; cases h)]
  exact (hR.env i sv h).1
/-- A block that lies there already becomes a local. -/
theorem Rel.adopt (hR : Rel E a w s) {d r : Nat} {t : TypeId} {z : List SV} (hd : a.tmps[d]? = some (.pointer (some ⟨r, 0, none⟩))) (hz : ∀ sv ∈ z, svOk s sv) (hh : w.heap[r]? = some (.cells (z.map SV.conc).toArray t (0, 0)))
    (h1 : s.mem r = none) (h2 : s.own r = none) (h3 : ∀ u lb, s.lb u = some lb → lb.blk? ≠ some r) (h4 : E.w0.heap.size ≤ r) : Rel E a w ((s.newB (.cells r z t)).put (some d) (.loc s.nxt r 0)) := by
  have hlb : ∀ u, St.lb ((s.newB (.cells r z t)).put (some d) (.loc s.nxt r 0)) u = if u = s.nxt then some (.cells r z t) else s.lb u := fun u => lb_newB s _ u
  have hok : ∀ sv, svOk s sv → svOk ((s.newB (.cells r z t)).put (some d) (.loc s.nxt r 0)) sv := fun sv h => svOk_ext (s := s) (Nat.le_succ _) (Mem.Le.refl _) (fun u lb' hu hl => by
    rw [hlb, if_neg (by omega)] at hl
    exact ⟨lb', hl, lb'.alike_refl⟩) h
  refine ⟨hR.defers, hR.size, fun i sv h => ?_, fun u r' cs ty h sv hsv => ?_, ⟨hR.sees.1, fun u lb h => ?_⟩, fun u lb h => ?_, fun u lb r' h hr => ?_, fun u u' lb lb' r' h h' hr hr' => ?_, hR.own, hR.mono, hR.fresh, hR.grow, hR.keep, hR.os, hR.tape, hR.output⟩
  · simp only [St.put, look_cons] at h
    split at h
    · rename_i e
      cases h
      subst e
      refine ⟨hd, Nat.lt_succ_self _, fun lb hl => ?_⟩
      rw [hlb, if_pos rfl] at hl
      cases hl
      exact ⟨_, _, rfl⟩
    · obtain ⟨g1, g2⟩ := hR.env i sv h
      exact ⟨g1, hok _ g2⟩
  · rw [hlb] at h
    split at h
    · cases h; exact hok _ (hz sv hsv)
    · exact hok _ (hR.cells u r' cs ty h sv hsv)
  · rw [hlb] at h
    split at h
    · cases h; exact hh
    · exact hR.sees.2 u lb h
  · rw [hlb] at h
    split at h
    · rename_i e; subst e; exact Nat.lt_succ_self _
    · exact Nat.lt_succ_of_lt (hR.nxt u lb h)
  · rw [hlb] at h
    split at h
    · cases h
      simp only [LB.blk?, Option.some.injEq] at hr
      subst hr
      exact ⟨h1, h2, .inl h4⟩
    · exact hR.place u lb r' h hr
  · rw [hlb] at h h'
    split at h
    · rename_i e
      cases h
      simp only [LB.blk?, Option.some.injEq] at hr
      subst hr
      split at h'
      · rename_i e'; rw [e, e']
      · exact absurd hr' (h3 u' lb' h')
    · split at h'
      · cases h'
        simp only [LB.blk?, Option.some.injEq] at hr'
        subst hr'
        exact absurd hr (h3 u lb h)
      · exact hR.sep u u' lb lb' r' h h' hr hr'
/-- A new variable comes up. -/
theorem DInv.born (h : DInv C E ops ml ol al s0 dirty D A ρ s L a w) (hal : AlOk C ops al) {j : Nat} {o : Oper} {t d : Nat} {ti : TI} (hj : j ∈ al) (hjD : ¬ D j) (hjA : ¬ A j) (ho : ops[j]? = some o) (hop : o.op = .alloc t) (hd : o.dst = some d) (hdn : d < E.n) (hti : look C.tt t = some ti)
    (hnml : ∀ t, (j, t) ∉ ml) (hnol : j ∉ ol) (hready : j ∈ Region.ready .any ops L) :
    DInv C E ops ml ol al s0 dirty D (fun k => k = j ∨ A k) (fun k => if k = j then w.heap.size else ρ k) s (L.setIfInBounds j true) (a.put o.dst (.pointer (some ⟨w.heap.size, 0, none⟩))) (w.alloc (.cells ti.zero.toArray t)) := by
  have hlt : j < ops.size := (Array.getElem?_eq_some_iff.1 ho).1
  have hkp : ∀ b, b < w.heap.size → (w.alloc (.cells ti.zero.toArray t)).heap[b]? = w.heap[b]? := fun b hb => Go.RowKit.Below.heap_alloc w _ b hb
  have hnd := h.nodst j hj hjD o d ho hd
  refine ⟨?_, by simp [h.size], fun k hk => ?_, h.closed.set hready, fun k hk => ?_, fun k hk => ?_, fun x y hx hy e => ?_, h.nodst, ?_, h.le, h.v0, h.nx, h.b0, h.stay, fun hx => h.own0 fun x hxo => by have := hx x hxo; have hne : j ≠ x := (fun e => hnol (by rw [e]; exact hxo)); rwa [getD_set_ne true hne] at this⟩
  · rw [hd]
    exact (h.rel.allocW _).putFree hnd _
  · rw [lst_set h.size hlt h.lst k hk]
    constructor
    · rintro (e | e | e)
      · exact .inr (.inl e)
      · exact .inl e
      · exact .inr (.inr e)
    · rintro (e | e | e)
      · exact .inr (.inl e)
      · exact .inl e
      · exact .inr (.inr e)
  · rcases hk with rfl | hk
    · exact ⟨hj, hjD⟩
    · exact h.sub k hk
  · by_cases e : k = j
    · subst e
      refine ⟨o, t, d, ti, ho, hop, hd, hti, ?_, ?_, ?_, ?_, ?_, ?_⟩
      · simp only [if_true, hd, Act.put, Array.getElem?_setIfInBounds]
        rw [if_pos (by rw [h.rel.size]; exact hdn)]
      · simp only [if_true]; exact alloc_heap_new w _
      · simp only [if_true]; exact (h.rel.mem_none (Nat.le_refl _)).1
      · simp only [if_true]; exact (h.rel.mem_none (Nat.le_refl _)).2
      · simp only [if_true]
        intro u lb hl hr
        have := LB.fits_lt (h.rel.sees.2 u lb hl) hr
        omega
      · simp only [if_true]; exact h.rel.grow
    · have hA : A k := hk.resolve_left e
      obtain ⟨ok, t', d', ti', g1, g2, g3, g4, g5, g6, g7, g8, g9, g10⟩ := h.pend k hA
      simp only [if_neg e]
      have hr : ρ k < w.heap.size := (Array.getElem?_eq_some_iff.1 g6).1
      refine ⟨ok, t', d', ti', g1, g2, g3, g4, ?_, by rw [hkp (ρ k) hr]; exact g6, g7, g8, g9, g10⟩
      have hne : o.dst ≠ some d' := hal.sole k (h.sub k hA).1 ok d' g1 g3 j o ho (fun x => e x.symm)
      simp only [hd, Act.put, Array.getElem?_setIfInBounds]
      rw [if_neg (fun x => hne (by rw [hd, x]))]
      exact g5
  · have hb : ∀ k, A k → ρ k ≠ w.heap.size := fun k hk => by
      obtain ⟨_, _, _, _, _, _, _, _, _, g6, _⟩ := h.pend k hk
      have := (Array.getElem?_eq_some_iff.1 g6).1
      omega
    split at e <;> split at e <;> rename_i e1 e2
    · rw [e1, e2]
    · exact absurd e.symm (hb y (hy.resolve_left e2))
    · exact absurd e (hb x (hx.resolve_left e1))
    · exact h.inj x y (hx.resolve_left e1) (hy.resolve_left e2) e
  · rw [SS_quiet hnml hnol]
    refine ⟨fun b x hb => by rw [hkp b (h.ss.1.lt (by simp [hb]))]; exact h.ss.1 b x hb, fun t r cs ty g1 g2 => ?_, fun hx b o hb => ?_⟩
    · have := h.ss.2.1 t r cs ty g1 g2
      exact LB.fits_congr (fun r' hr' => hkp r' (LB.fits_lt this hr')) this
    · have := h.ss.2.2 hx
      rw [hkp b (this.lt (by simp [hb]))]
      exact this b o hb
/-- A new variable that has come up is met. -/
theorem DInv.adopt (h : DInv C E ops ml ol al s0 dirty D A ρ s L a w) (hal : AlOk C ops al) (hs0 : ∀ t lb, s0.lb t = some lb → t < s0.nxt) (hos0 : C.os = []) {j : Nat} {o : Oper} (hA : A j) (ho : ops[j]? = some o) {K : St → Prop} (hv : vcOp C o s K) :
    ∃ s', K s' ∧ DInv C E ops ml ol al s0 dirty (fun k => k = j ∨ D k) (fun k => k ≠ j ∧ A k) ρ s' L a w := by
  obtain ⟨oj, t, d, ti, g1, g2, g3, g4, g5, g6, g7, g8, g9, g10⟩ := h.pend j hA
  rw [ho] at g1
  cases g1
  obtain ⟨_, hv⟩ := dstK_spec hv
  simp only [g2] at hv
  obtain ⟨ti', k1, k2⟩ := tyK_spec hv
  rw [g4] at k1
  cases k1
  have hmo : memO o.dst C.os = false := by rw [hos0, g3]; rfl
  simp only [hmo] at k2
  rw [valsK_eq] at k2
  have k3 := k2 (ρ j)
  rw [newBK_eq, putK_eq, g3] at k3
  have hlb : ∀ u, St.lb ((s.newB (.cells (ρ j) (vals ti.zero) t)).put (some d) (.loc s.nxt (ρ j) 0)) u = if u = s.nxt then some (.cells (ρ j) (vals ti.zero) t) else s.lb u := fun u => lb_newB s _ u
  refine ⟨_, k3, h.rel.adopt g5 (fun sv hsv => vals_ok s _ sv hsv) (by rw [vals_conc]; exact g6) g7 g8 g9 g10, h.size, fun k hk => ?_, h.closed, fun k hk => ?_, fun k hk => ?_, fun x y hx hy => h.inj x y hx.2 hy.2, fun k hk hD ok d' hok hd' => ?_, h.ss, h.le, fun i sv hi => ?_, Nat.le_succ_of_le h.nx, fun u r cs ty g => ?_, fun u lb hu hl => ?_, h.own0⟩
  · rw [h.lst k hk]
    by_cases e : k = j
    · subst e; simp [hA]
    · simp [e]
  · refine ⟨(h.sub k hk.2).1, ?_⟩
    rintro (e | e)
    · exact hk.1 e
    · exact (h.sub k hk.2).2 e
  · obtain ⟨ok, t', d', ti', m1, m2, m3, m4, m5, m6, m7, m8, m9, m10⟩ := h.pend k hk.2
    refine ⟨ok, t', d', ti', m1, m2, m3, m4, m5, m6, m7, m8, fun u lb hl hr => ?_, m10⟩
    rw [hlb] at hl
    split at hl
    · cases hl
      simp only [LB.blk?, Option.some.injEq] at hr
      exact hk.1 (h.inj j k hA hk.2 hr).symm
    · exact m9 u lb hl hr
  · have hne : k ≠ j := fun e => hD (.inl e)
    have hD' : ¬ D k := fun e => hD (.inr e)
    have hdd : d' ≠ d := fun e => by
      have := hal.sole k hk ok d' hok hd' j o ho (fun e => hne e.symm)
      rw [g3, e] at this
      exact this rfl
    simp only [St.put, look_cons]
    rw [if_neg hdd]
    exact h.nodst k hk hD' ok d' hok hd'
  · simp only [St.put, look_cons] at hi
    split at hi
    · cases hi
      intro r' cs ty g
      have := hs0 _ _ g
      have := h.nx
      omega
    · exact h.v0 i sv hi
  · rcases h.b0 u r cs ty g with ⟨cs', ty', k⟩ | k
    · refine .inl ⟨cs', ty', ?_⟩
      rw [hlb, if_neg (by have := h.rel.nxt _ _ k; omega)]
      exact k
    · exact .inr k
  · rw [hlb, if_neg (by have := h.nx; omega)] at hl
    exact h.stay u lb hu hl
theorem DInv.adoptAll (hal : AlOk C ops al) (hs0 : ∀ t lb, s0.lb t = some lb → t < s0.nxt) (hos0 : C.os = []) : ∀ (js : List Nat) {D A : Nat → Prop} {s : St} {K : St → Prop}, DInv C E ops ml ol al s0 dirty D A ρ s L a w → (∀ j ∈ js, A j) → js.Nodup → bornK C ops.toList js s K →
    ∃ s', K s' ∧ DInv C E ops ml ol al s0 dirty (fun k => k ∈ js ∨ D k) (fun k => k ∉ js ∧ A k) ρ s' L a w
  | [], D, A, s, K, h, _, _, hv => ⟨s, hv, h.congr (fun i => by simp) (fun i => by simp)⟩
  | j :: js, D, A, s, K, h, hA, hn, hv => by
    simp only [bornK] at hv
    split at hv
    · rename_i o ho
      obtain ⟨hn1, hn2⟩ := List.nodup_cons.1 hn
      obtain ⟨s1, k1, h1⟩ := h.adopt hal hs0 hos0 (hA j (by simp)) (by simpa using ho) hv
      obtain ⟨s2, k2, h2⟩ := DInv.adoptAll hal hs0 hos0 js h1 (fun k hk => ⟨fun e => hn1 (e ▸ hk), hA k (by simp [hk])⟩) hn2 k1
      refine ⟨s2, k2, h2.congr (fun i => ?_) (fun i => ?_)⟩
      · simp only [List.mem_cons]
        constructor
        · rintro (e | e | e)
          · exact .inl (.inr e)
          · exact .inl (.inl e)
          · exact .inr e
        · rintro ((e | e) | e)
          · exact .inr (.inl e)
          · exact .inl e
          · exact .inr (.inr e)
      · simp only [List.mem_cons, not_or]
        constructor
        · rintro ⟨e1, e2, e3⟩; exact ⟨⟨e2, e1⟩, e3⟩
        · rintro ⟨⟨e1, e2⟩, e3⟩; exact ⟨e2, e1, e3⟩
    · exact hv.elim
end
end Go.Vx
