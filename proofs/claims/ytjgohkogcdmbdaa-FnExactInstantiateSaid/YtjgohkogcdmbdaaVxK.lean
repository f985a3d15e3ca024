/- Code, and whole functions. -/
import Derived.Test.YtjgohkogcdmbdaaVxJ
namespace Go.Vx
section
variable {C : Cx} {E : Ent} {s : St} {a : Act} {w : World}

/-- A loop whose measure stands in an index. -/
theorem wp_loop_ix {P : Program} {c : Code} {Q : Exit → Act → World → Prop} {ι : Type} (I : ι → Act → World → Prop) (m : ι → Nat)
    (round : ∀ i a w, I i a w → c.wp P (Exit.then (fun a' w' => ∃ i', m i' < m i ∧ I i' a' w') Q) a w) : ∀ i a w, I i a w → (Code.loop c).wp P Q a w := by
  intro i0 a0 w0 h0 b k cs
  have key : ∀ n i a w, m i = n → I i a w →
      ∃ e a' w', Q e a' w' ∧ Arrives P (lone (b.at a (.code c :: .inLoop c :: k)) cs w) b k cs e a' w' := by
    intro n
    induction n using Nat.strongRecOn with
    | _ n ih =>
      intro i a w hn hI
      obtain ⟨e, a₁, w₁, hq, harr⟩ := round i a w hI b (.inLoop c :: k) cs
      cases e with
      | normal =>
        obtain ⟨i', hlt, hI₁⟩ := hq
        obtain ⟨e₂, a₂, w₂, hq₂, harr₂⟩ := ih (m i') (hn ▸ hlt) i' a₁ w₁ rfl hI₁
        exact ⟨e₂, a₂, w₂, hq₂, .of_steps (Steps.trans harr (.one step_inLoop)) harr₂⟩
      | exit id => exact ⟨_, a₁, w₁, hq, .pass (x := .inLoop c) rfl (fun _ _ => .inl (by simp)) harr⟩
      | goto l => exact ⟨_, a₁, w₁, hq, .pass (x := .inLoop c) rfl (fun _ _ => .inl (by simp)) harr⟩
      | ret => exact ⟨_, a₁, w₁, hq, .pass (x := .inLoop c) rfl (fun _ _ => .inl (by simp)) harr⟩
      | panic ch => exact ⟨_, a₁, w₁, hq, .pass (x := .inLoop c) rfl (fun _ _ => .inl (by simp)) harr⟩
      | outgrown => exact ⟨_, a₁, w₁, hq, .pass (x := .inLoop c) rfl (fun _ _ => .inl (by simp)) harr⟩
  obtain ⟨e, a', w', hq, harr⟩ := key _ i0 a0 w0 rfl h0
  exact ⟨e, a', w', hq, .of_steps (.one step_loop) harr⟩

theorem SV.gen_cases {x y : SV} (h : x.gen = y.gen) : x = y ∨ ((∃ b, x = .val (.bool b) ∨ x = .kn b) ∧ (∃ b, y = .val (.bool b) ∨ y = .kn b) ∧ x.conc = y.conc) := by
  cases x <;> cases y <;> simp only [SV.gen] at h <;> first
    | exact .inl h
    | (cases h; exact .inr ⟨⟨_, .inl rfl⟩, ⟨_, .inr rfl⟩, rfl⟩)
    | (cases h; exact .inr ⟨⟨_, .inr rfl⟩, ⟨_, .inl rfl⟩, rfl⟩)
    | (cases h; exact .inl rfl)
    | cases h
theorem SV.gen_conc {x y : SV} (h : x.gen = y.gen) : x.conc = y.conc := by
  rcases SV.gen_cases h with rfl | ⟨_, _, h⟩
  · rfl
  · exact h
theorem gens_conc : ∀ {l r : List SV}, l.map SV.gen = r.map SV.gen → l.map SV.conc = r.map SV.conc
  | [], [], _ => rfl
  | a :: l, b :: r, h => by
    simp only [List.map_cons, List.cons.injEq] at h ⊢
    exact ⟨SV.gen_conc h.1, gens_conc h.2⟩
  | [], _ :: _, h => by simp at h
  | _ :: _, [], h => by simp at h
theorem gens_mem : ∀ {l r : List SV}, l.map SV.gen = r.map SV.gen → ∀ sv ∈ r, ∃ sv' ∈ l, sv'.gen = sv.gen
  | [], [], _, sv, h => by cases h
  | a :: l, b :: r, h, sv, hm => by
    simp only [List.map_cons, List.cons.injEq] at h
    rcases List.mem_cons.1 hm with rfl | hm
    · exact ⟨a, by simp, h.1⟩
    · obtain ⟨x, hx, hx'⟩ := gens_mem h.2 sv hm
      exact ⟨x, by simp [hx], hx'⟩
  | [], _ :: _, h, _, _ => by simp at h
  | _ :: _, [], _, sv, hm => by cases hm
/-- Blocks that are one but for what is known of bools. -/
theorem LB.gen_cases {x y : LB} (h : x.gen = y.gen) : x = y ∨ ∃ r cs cs' ty, x = .cells r cs ty ∧ y = .cells r cs' ty ∧ cs.map SV.gen = cs'.map SV.gen := by
  cases x <;> cases y <;> simp only [LB.gen] at h <;> first
    | exact .inl h
    | (cases h; done)
    | (simp only [LB.cells.injEq] at h; obtain ⟨rfl, h2, rfl⟩ := h; exact .inr ⟨_, _, _, _, rfl, rfl, h2⟩)
theorem SubE.get : ∀ {l' l : List (Nat × SV)}, SubE l' l → ∀ {i sv}, look l i = some sv → ∃ sv', look l' i = some sv' ∧ sv'.gen = sv.gen
  | _, [], _, _, _, h => by cases h
  | l', (j, x) :: r, ⟨h1, h2⟩, i, sv, h => by
    rw [look_cons] at h
    split at h
    · rename_i e; subst e; cases h; exact Option.map_eq_some_iff.1 h1
    · exact h2.get h
theorem SubB.get {s' : St} : ∀ {l : List (Nat × Option LB)}, SubB s' l → ∀ {t lb}, look l t = some (some lb) → ∃ lb', s'.lb t = some lb' ∧ lb'.gen = lb.gen
  | [], _, _, _, h => by cases h
  | (j, some x) :: r, ⟨h1, h2⟩, t, lb, h => by
    rw [look_cons] at h
    split at h
    · rename_i e; subst e; cases h; exact Option.map_eq_some_iff.1 h1
    · exact h2.get h
  | (j, none) :: r, h2, t, lb, h => by
    rw [look_cons] at h
    split at h
    · cases h
    · exact SubB.get (l := r) h2 h
theorem scopedE_get : ∀ {n : Nat} {l : List (Nat × SV)}, scopedE n l = true → ∀ {i sv}, look l i = some sv → tagsBelow n sv = true
  | _, [], _, _, _, h => by cases h
  | n, (j, x) :: r, hs, i, sv, h => by
    simp only [scopedE] at hs
    split at hs
    · rename_i hx
      rw [look_cons] at h
      split at h
      · cases h; exact hx
      · exact scopedE_get hs h
    · cases hs
theorem scopedC_get : ∀ {n : Nat} {l : List SV}, scopedC n l = true → ∀ sv ∈ l, tagsBelow n sv = true
  | _, [], _, _, h => by cases h
  | n, x :: r, hs, sv, h => by
    simp only [scopedC] at hs
    split at hs
    · rename_i hx
      rcases List.mem_cons.1 h with rfl | h
      · exact hx
      · exact scopedC_get hs sv h
    · cases hs
theorem scopedB_get : ∀ {n : Nat} {l : List (Nat × Option LB)}, scopedB n l = true → ∀ {t lb}, look l t = some (some lb) → t < n ∧ ∀ r cs ty, lb = .cells r cs ty → ∀ sv ∈ cs, tagsBelow n sv = true
  | _, [], _, _, _, h => by cases h
  | n, (j, x) :: l, hs, t, lb, h => by
    rw [look_cons] at h
    cases x with
    | none =>
      simp only [scopedB] at hs
      split at hs
      · split at h
        · cases h
        · exact scopedB_get hs h
      · cases hs
    | some y =>
      cases y with
      | cells r cs ty =>
        simp only [scopedB] at hs
        split at hs
        · rename_i h1 h2
          split at h
          · rename_i e
            cases h
            refine ⟨by rw [e]; simpa [Nat.blt_eq] using h1, fun r' cs' ty' e => ?_⟩
            cases e
            exact scopedC_get h2
          · exact scopedB_get hs h
        · cases hs
      | row b c t' es xs =>
        simp only [scopedB] at hs
        split at hs
        · rename_i h1
          split at h
          · rename_i e
            cases h
            exact ⟨by rw [e]; simpa [Nat.blt_eq] using h1, fun _ _ _ e => by cases e⟩
          · exact scopedB_get hs h
        · cases hs
      | map r en ck =>
        simp only [scopedB] at hs
        split at hs
        · rename_i h1
          split at h
          · rename_i e
            cases h
            exact ⟨by rw [e]; simpa [Nat.blt_eq] using h1, fun _ _ _ e => by cases e⟩
          · exact scopedB_get hs h
        · cases hs
theorem Rel.sub {s' : St} (hR : Rel E a w s') (hs : s'.Sub s) (h1 : scopedE s.nxt s.env = true) (h2 : scopedB s.nxt s.blk = true) : Rel E a w s := by
  have hl : ∀ {t lb}, s.lb t = some lb → ∃ lb', s'.lb t = some lb' ∧ lb'.gen = lb.gen := fun h => hs.blk.get (lb_look h)
  have hok : ∀ sv' sv, sv'.gen = sv.gen → tagsBelow s.nxt sv = true → svOk s' sv' → svOk s sv := fun sv' sv hg ht h => by
    rcases SV.gen_cases hg with rfl | ⟨_, ⟨b, rfl | rfl⟩, _⟩
    · cases sv' with
      | loc t r off =>
        refine ⟨by simpa [tagsBelow, Nat.blt_eq] using ht, fun lb hlb => ?_⟩
        obtain ⟨lb', g1, g2⟩ := hl hlb
        obtain ⟨cs, ty, rfl⟩ := h.2 lb' g1
        rcases LB.gen_cases g2 with rfl | ⟨_, _, _, _, e1, rfl, _⟩
        · exact ⟨_, _, rfl⟩
        · cases e1; exact ⟨_, _, rfl⟩
      | row t b n c =>
        refine ⟨by simpa [tagsBelow, Nat.blt_eq] using ht, fun lb hlb => ?_⟩
        obtain ⟨lb', g1, g2⟩ := hl hlb
        obtain ⟨ty, es, xs, rfl, e⟩ := h.2 lb' g1
        rcases LB.gen_cases g2 with rfl | ⟨_, _, _, _, e1, _, _⟩
        · exact ⟨_, _, _, rfl, e⟩
        · cases e1
      | rel t b e i o =>
        refine ⟨by simpa [tagsBelow, Nat.blt_eq] using ht, fun lb hlb => ?_⟩
        obtain ⟨lb', g1, g2⟩ := hl hlb
        obtain ⟨cap, ty, xs, rfl, e⟩ := h.2 lb' g1
        rcases LB.gen_cases g2 with rfl | ⟨_, _, _, _, e1, _, _⟩
        · exact ⟨_, _, _, rfl, e⟩
        · cases e1
      | elem ad cs off => intro j v hj; rw [← hs.mem]; exact h j v hj
      | val v => trivial
      | kn b => trivial
    · trivial
    · trivial
  have hblk : ∀ {t lb}, s.lb t = some lb → ∃ lb', s'.lb t = some lb' ∧ lb'.blk? = lb.blk? ∧ (lb'.fits (fun b => w.heap[b]?) → lb.fits (fun b => w.heap[b]?)) := fun {t lb} h => by
    obtain ⟨lb', g1, g2⟩ := hl h
    rcases LB.gen_cases g2 with rfl | ⟨r, cs, cs', ty, rfl, rfl, g⟩
    · exact ⟨_, g1, rfl, id⟩
    · refine ⟨_, g1, rfl, fun hf => ?_⟩
      simp only [LB.fits, gens_conc g] at hf ⊢
      exact hf
  refine ⟨hR.defers, hR.size, fun i sv h => ?_, fun t r cs ty h sv hsv => ?_, ⟨by rw [← hs.mem]; exact hR.sees.1, fun t lb h => ?_⟩, fun t lb h => (scopedB_get h2 (lb_look h)).1, fun t lb r h hr => ?_, fun t t' lb lb' r h h' hr hr' => ?_, by rw [← hs.own, ← hs.mem]; exact hR.own, by rw [← hs.mem]; exact hR.mono, by rw [← hs.mem]; exact hR.fresh, hR.grow, hR.keep, hR.os, hR.tape, hR.output⟩
  · obtain ⟨sv', g1, g2⟩ := hs.env.get h
    obtain ⟨h3, h4⟩ := hR.env i sv' g1
    exact ⟨by rw [← SV.gen_conc g2]; exact h3, hok sv' sv g2 (scopedE_get h1 h) h4⟩
  · have hb := (scopedB_get h2 (lb_look h)).2 r cs ty rfl sv hsv
    obtain ⟨lb', g1, g2⟩ := hl h
    rcases LB.gen_cases g2 with rfl | ⟨_, cs', _, _, rfl, e, g⟩
    · exact hok sv sv rfl hb (hR.cells t r cs ty g1 sv hsv)
    · cases e
      obtain ⟨sv', hm, hn⟩ := gens_mem g sv hsv
      exact hok sv' sv hn hb (hR.cells t _ cs' _ g1 sv' hm)
  · obtain ⟨lb', g1, _, g3⟩ := hblk h
    exact g3 (hR.sees.2 t lb' g1)
  · rw [← hs.mem, ← hs.own]
    obtain ⟨lb', g1, g2, _⟩ := hblk h
    exact hR.place t lb' r g1 (by rw [g2]; exact hr)
  · obtain ⟨l1, g1, g2, _⟩ := hblk h
    obtain ⟨l3, g3, g4, _⟩ := hblk h'
    exact hR.sep t t' l1 l3 r g1 g3 (by rw [g2]; exact hr) (by rw [g4]; exact hr')
theorem SubEN.get {n : Nat} : ∀ {l' l : List (Nat × SV)}, SubEN n l' l → ∀ {i sv}, look l i = some sv → ∃ sv', look l' i = some sv' ∧ NilAs n sv' sv
  | _, [], _, _, _, h => by cases h
  | l', (j, x) :: r, ⟨h1, h2⟩, i, sv, h => by
    rw [look_cons] at h
    split at h
    · rename_i e; subst e; cases h; exact h1
    · exact h2.get h
theorem SubBN.get {s' : St} : ∀ {l : List (Nat × Option LB)}, SubBN s' l → ∀ {t lb}, look l t = some (some lb) →
    s'.lb t = some lb ∨ (∃ ty es, lb = .row none 0 ty es [] ∧ s'.nxt ≤ t) ∨ ∃ b cs cs' ty, lb = .cells b cs ty ∧ s'.lb t = some (.cells b cs' ty) ∧ NilC s'.nxt cs' cs
  | [], _, _, _, h => by cases h
  | (j, some x) :: r, ⟨h1, h2⟩, t, lb, h => by
    rw [look_cons] at h
    split at h
    · rename_i e; subst e; cases h; exact h1
    · exact h2.get h
  | (j, none) :: r, h2, t, lb, h => by
    rw [look_cons] at h
    split at h
    · cases h
    · exact SubBN.get (l := r) h2 h
theorem NilAs.conc {n : Nat} {sv' sv : SV} (h : NilAs n sv' sv) : sv'.conc = sv.conc := by
  rcases h with h | ⟨t, rfl, rfl, _⟩
  · exact SV.gen_conc h
  · rfl
theorem NilC.conc {n : Nat} : ∀ {l r : List SV}, NilC n l r → l.map SV.conc = r.map SV.conc
  | [], [], _ => rfl
  | a :: l, b :: r, h => by simp [h.1.conc, NilC.conc h.2]
theorem NilC.mem {n : Nat} : ∀ {l r : List SV}, NilC n l r → ∀ sv ∈ r, ∃ sv' ∈ l, NilAs n sv' sv
  | [], [], _, sv, h => by cases h
  | a :: l, b :: r, h, sv, hm => by
    rcases List.mem_cons.1 hm with rfl | hm
    · exact ⟨a, by simp, h.1⟩
    · obtain ⟨x, hx, hx'⟩ := NilC.mem h.2 sv hm
      exact ⟨x, by simp [hx], hx'⟩
theorem Rel.subN {s' : St} (hR : Rel E a w s') (hs : s'.SubN s) (h1 : scopedE s.nxt s.env = true) (h2 : scopedB s.nxt s.blk = true) : Rel E a w s := by
  have hl : ∀ {t lb}, s.lb t = some lb → _ := fun {t lb} h => hs.blk.get (lb_look h)
  have hok : ∀ sv' sv, NilAs s'.nxt sv' sv → tagsBelow s.nxt sv = true → svOk s' sv' → svOk s sv := fun sv' sv hn ht h => by
    rcases hn with hn | ⟨t, rfl, rfl, hge⟩
    · rcases SV.gen_cases hn with rfl | ⟨_, ⟨b, rfl | rfl⟩, _⟩
      rotate_left
      · trivial
      · trivial
      cases sv' with
      | loc t r off =>
        refine ⟨by simpa [tagsBelow, Nat.blt_eq] using ht, fun lb hlb => ?_⟩
        rcases hl hlb with g | ⟨ty, es, rfl, hge⟩ | ⟨b, cs, cs', ty, rfl, g, _⟩
        · exact h.2 lb g
        · have := h.1; omega
        · obtain ⟨_, _, e⟩ := h.2 _ g
          cases e
          exact ⟨_, _, rfl⟩
      | row t b n c =>
        refine ⟨by simpa [tagsBelow, Nat.blt_eq] using ht, fun lb hlb => ?_⟩
        rcases hl hlb with g | ⟨ty, es, rfl, hge⟩ | ⟨b, cs, cs', ty, rfl, g, _⟩
        · exact h.2 lb g
        · have := h.1; omega
        · obtain ⟨_, _, _, e, _⟩ := h.2 _ g
          cases e
      | rel t b e i o =>
        refine ⟨by simpa [tagsBelow, Nat.blt_eq] using ht, fun lb hlb => ?_⟩
        rcases hl hlb with g | ⟨ty, es, rfl, hge⟩ | ⟨b, cs, cs', ty, rfl, g, _⟩
        · exact h.2 lb g
        · have := h.1; omega
        · obtain ⟨_, _, _, e, _⟩ := h.2 _ g
          cases e
      | elem ad cs off => intro j v hj; rw [← hs.mem]; exact h j v hj
      | val v => trivial
      | kn b => trivial
    · refine ⟨by simpa [tagsBelow, Nat.blt_eq] using ht, fun lb hlb => ?_⟩
      rcases hl hlb with g | ⟨ty, es, rfl, _⟩ | ⟨b, cs, cs', ty, rfl, g, _⟩
      · have := hR.nxt _ _ g; omega
      · exact ⟨_, _, _, rfl, rfl⟩
      · have := hR.nxt _ _ g; omega
  have hblk : ∀ {t lb}, s.lb t = some lb → (∃ lb', s'.lb t = some lb' ∧ lb'.blk? = lb.blk? ∧ (lb'.fits (fun b => w.heap[b]?) → lb.fits (fun b => w.heap[b]?))) ∨ (lb.blk? = none ∧ lb.fits (fun b => w.heap[b]?)) := fun {t lb} h => by
    rcases hl h with g | ⟨ty, es, rfl, hge⟩ | ⟨b, cs, cs', ty, rfl, g, hc⟩
    · exact .inl ⟨lb, g, rfl, id⟩
    · exact .inr ⟨rfl, rfl, rfl⟩
    · refine .inl ⟨_, g, rfl, fun hf => ?_⟩
      simp only [LB.fits, hc.conc] at hf ⊢
      exact hf
  refine ⟨hR.defers, hR.size, fun i sv h => ?_, fun t r cs ty h sv hsv => ?_, ⟨by rw [← hs.mem]; exact hR.sees.1, fun t lb h => ?_⟩, fun t lb h => (scopedB_get h2 (lb_look h)).1, fun t lb r h hr => ?_, fun t t' lb lb' r h h' hr hr' => ?_, by rw [← hs.own, ← hs.mem]; exact hR.own, by rw [← hs.mem]; exact hR.mono, by rw [← hs.mem]; exact hR.fresh, hR.grow, hR.keep, hR.os, hR.tape, hR.output⟩
  · obtain ⟨sv', g1, g2⟩ := hs.env.get h
    obtain ⟨h3, h4⟩ := hR.env i sv' g1
    exact ⟨by rw [← g2.conc]; exact h3, hok sv' sv g2 (scopedE_get h1 h) h4⟩
  · have hb := (scopedB_get h2 (lb_look h)).2 r cs ty rfl sv hsv
    rcases hl h with g | ⟨_, _, e, _⟩ | ⟨b, cs1, cs', ty', e, g, hc⟩
    · exact hok sv sv (.inl rfl) hb (hR.cells t r cs ty g sv hsv)
    · cases e
    · cases e
      obtain ⟨sv', hm, hn⟩ := hc.mem sv hsv
      exact hok sv' sv hn hb (hR.cells t _ cs' _ g sv' hm)
  · rcases hblk h with ⟨lb', g1, _, g3⟩ | ⟨_, g⟩
    · exact g3 (hR.sees.2 t lb' g1)
    · exact g
  · rw [← hs.mem, ← hs.own]
    rcases hblk h with ⟨lb', g1, g2, _⟩ | ⟨g, _⟩
    · exact hR.place t lb' r g1 (by rw [g2]; exact hr)
    · rw [g] at hr; cases hr
  · rcases hblk h with ⟨l1, g1, g2, _⟩ | ⟨g, _⟩
    · rcases hblk h' with ⟨l3, g3, g4, _⟩ | ⟨g, _⟩
      · exact hR.sep t t' l1 l3 r g1 g3 (by rw [g2]; exact hr) (by rw [g4]; exact hr')
      · rw [g] at hr'; cases hr'
    · rw [g] at hr; cases hr
def Ex.out : Ex → Exit
  | .normal => .normal
  | .ret => .ret
  | .exit id => .exit id
/-- **CODE RUNS AS THE GENERATOR SAYS.** -/
theorem vcCode_sound (htt : TTok C.P C.tt) (hn : C.n = E.n) (hos : C.dr = true → C.os = [])
    (draws : ∀ {ops : Array Oper} {id : Nat} {s : St} {a : Act} {w : World} {K : St → Prop} {Q : Exit → Act → World → Prop}, Rel E a w s → vcDraw C ops.toList s K → (∀ a' w' s', K s' → Rel E a' w' s' → Q .normal a' w') → (Code.region id ops true).wp C.P Q a w) :
    ∀ (c : Code) {s : St} {a : Act} {w : World} {K : Ex → St → Prop} {Q : Exit → Act → World → Prop}, Rel E a w s → vcCode C c s K → (∀ e s' a' w', K e s' → Rel E a' w' s' → Q e.out a' w') → c.wp C.P Q a w := by
  intro c
  induction c with
  | skip => intro s a w K Q hR h hK; exact wp_skip (hK .normal s a w h hR)
  | ret => intro s a w K Q hR h hK; exact wp_ret (hK .ret s a w h hR)
  | exit id => intro s a w K Q hR h hK; exact wp_exit (hK (.exit id) s a w h hR)
  | label l => intro s a w K Q hR h hK; exact wp_label (hK .normal s a w h hR)
  | region id ops draw =>
    intro s a w K Q hR h hK
    cases draw
    · exact wp_region_list (vcList_sound htt hn hos ops.toList hR h fun a' w' s' hk hR' => hK .normal s' a' w' hk hR')
    · exact draws hR h fun a' w' s' hk hR' => hK .normal s' a' w' hk hR'
  | seq x y ihx ihy =>
    intro s a w K Q hR h hK
    refine wp_seq (ihx hR h fun e s' a' w' hk hR' => ?_)
    cases e with
    | normal => exact ihy hR' hk hK
    | ret => exact hK .ret s' a' w' hk hR'
    | exit id => exact hK (.exit id) s' a' w' hk hR'
  | cond x t e iht ihe =>
    intro s a w K Q hR h hK
    have h : evK s x fun c => condVC c (vcCode C t s K) (vcCode C e s K) := h
    obtain ⟨sv, h1, h2⟩ := evK_spec h
    obtain ⟨e1, -⟩ := ev_sound hR.env h1
    unfold condVC at h2
    split at h2
    · exact wp_cond_true e1 (iht hR h2 hK)
    · exact wp_cond_false e1 (ihe hR h2 hK)
    · obtain ⟨h3, h4⟩ := if_elim h2
      exact wp_cond_split e1 (fun hb => iht hR (h3 hb) hK) (fun hb => ihe hR (h4 hb) hK)
    · exact h2.elim
  | block id c ih =>
    intro s a w K Q hR h hK
    refine wp_block (ih hR h fun e s' a' w' hk hR' => ?_)
    cases e with
    | normal => exact hK .normal s' a' w' hk hR'
    | ret => exact hK .ret s' a' w' hk hR'
    | exit j =>
      simp only at hk
      simp only [Ex.out, Exit.inBlock]
      split at hk
      · rename_i hb
        rw [if_pos (Nat.eq_of_beq_eq_true hb)]
        exact hK .normal s' a' w' hk hR'
      · rename_i hb
        rw [if_neg (fun e => by subst e; simp at hb)]
        exact hK (.exit j) s' a' w' hk hR'
  | loop c ih =>
    intro s a w K Q hR h hK
    have h : loopVC (fun s K => vcCode C c s K) s K := h
    obtain ⟨ι, I, σ, m, i0, h0, h1, h2, h3⟩ := loop_elim h
    refine wp_loop_ix (fun i a w => I i ∧ Rel E a w (σ i)) m (fun i a w hR' => ?_) i0 a w ⟨h0, h2.elim (fun h => hR.sub h (h1 i0).1 (h1 i0).2) fun h => hR.subN h (h1 i0).1 (h1 i0).2⟩
    refine ih hR'.2 (h3 i hR'.1) fun e s' a' w' hk hR'' => ?_
    cases e with
    | normal =>
      obtain ⟨i', hi, hm, hs⟩ := hk
      exact ⟨i', hm, hi, hR''.sub hs (h1 i').1 (h1 i').2⟩
    | ret => exact hK .ret s' a' w' hk hR''
    | exit id => exact hK (.exit id) s' a' w' hk hR''
  | rangeFunc => intro s a w K Q hR h hK; exact h.elim
  | scope => intro s a w K Q hR h hK; exact h.elim
  | goto => intro s a w K Q hR h hK; exact h.elim
  | refuse => intro s a w K Q hR h hK; exact h.elim
end
end Go.Vx
