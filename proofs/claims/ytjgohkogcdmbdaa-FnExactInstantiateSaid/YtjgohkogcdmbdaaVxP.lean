/- **DRAWN REGIONS ARE SOUND.** -/
import Derived.Test.YtjgohkogcdmbdaaVxO
namespace Go.Vx
section
variable {C : Cx} {E : Ent} {ops : Array Oper} {ml : List (Nat × Nat)} {ol : List Nat} {al : List Nat} {s0 : St}
theorem LB.alike_trans {a b c : LB} (h : a.alike b) (k : b.alike c) : a.alike c := by
  cases a <;> cases b <;> simp only [LB.alike] at h <;> cases c <;> simp only [LB.alike] at k ⊢
  · exact h.trans k
  · exact ⟨h.1.trans k.1, h.2.1.trans k.2.1, h.2.2.1.trans k.2.2.1, h.2.2.2.trans k.2.2.2⟩
  · exact h.trans k
def IsRow (lb : LB) : Prop := ∃ b c y e x, lb = .row b c y e x
theorem alike_row {a b : LB} (h : a.alike b) : IsRow a ↔ IsRow b := by
  cases a <;> cases b <;> simp only [LB.alike] at h <;> simp [IsRow]
/-- The new variables of the region. -/
structure AlOk (C : Cx) (ops : Array Oper) (al : List Nat) : Prop where
  spec : ∀ j, j ∈ al ↔ ∃ o, ops[j]? = some o ∧ allocOp o = true
  tt : ∀ j ∈ al, ∀ o t, ops[j]? = some o → o.op = .alloc t → ∃ ti, look C.tt t = some ti
  dst : ∀ j ∈ al, ∀ o d, ops[j]? = some o → o.dst = some d → d < C.n
  sole : ∀ j ∈ al, ∀ o d, ops[j]? = some o → o.dst = some d → ∀ k ok, ops[k]? = some ok → k ≠ j → ok.dst ≠ some d
structure DInv (C : Cx) (E : Ent) (ops : Array Oper) (ml : List (Nat × Nat)) (ol al : List Nat) (s0 : St) (dirty : List Nat) (D A : Nat → Prop) (ρ : Nat → Nat) (s : St) (L : Array Bool) (a : Act) (w : World) : Prop where
  rel : Rel E a w s
  size : L.size = ops.size
  lst : ∀ i, i < ops.size → (L.getD i true = true ↔ D i ∨ A i)
  closed : Closed ops L
  sub : ∀ j, A j → j ∈ al ∧ ¬ D j
  pend : ∀ j, A j → ∃ o t d ti, ops[j]? = some o ∧ o.op = .alloc t ∧ o.dst = some d ∧ look C.tt t = some ti ∧ a.tmps[d]? = some (.pointer (some ⟨ρ j, 0, none⟩)) ∧
    w.heap[ρ j]? = some (.cells ti.zero.toArray t (0, 0)) ∧ s.mem (ρ j) = none ∧ s.own (ρ j) = none ∧ (∀ u lb, s.lb u = some lb → lb.blk? ≠ some (ρ j)) ∧ E.w0.heap.size ≤ ρ j
  inj : ∀ j k, A j → A k → ρ j = ρ k → j = k
  nodst : ∀ j ∈ al, ¬ D j → ∀ o d, ops[j]? = some o → o.dst = some d → look s.env d = none
  ss : SS s0 ml ol L w
  le : s0.mem.Le s.mem
  v0 : ∀ i sv, look s.env i = some sv → V0 s0 sv
  nx : s0.nxt ≤ s.nxt
  b0 : ∀ t r cs ty, s0.lb t = some (.cells r cs ty) → (∃ cs' ty', s.lb t = some (.cells r cs' ty')) ∨ s.mem r ≠ none
  stay : ∀ t lb, t < s0.nxt → s.lb t = some lb → ∃ lb0, s0.lb t = some lb0 ∧ (lb0.alike lb ∨ (t ∈ dirty ∧ IsRow lb0 ∧ IsRow lb))
  own0 : (∀ x ∈ ol, L.getD x true = false) → s.own = s0.own

variable {dirty : List Nat} {D A : Nat → Prop} {ρ : Nat → Nat} {s : St} {L : Array Bool} {a : Act} {w : World}
theorem DInv.congr {D' A' : Nat → Prop} (h : DInv C E ops ml ol al s0 dirty D A ρ s L a w) (hD : ∀ i, D i ↔ D' i) (hA : ∀ i, A i ↔ A' i) : DInv C E ops ml ol al s0 dirty D' A' ρ s L a w := by
  have e1 : D = D' := funext fun i => propext (hD i)
  have e2 : A = A' := funext fun i => propext (hA i)
  rw [← e1, ← e2]; exact h
theorem DInv.know (h : DInv C E ops ml ol al s0 dirty D A ρ s L a w) {s1 : St} (hR : Rel E a w s1) (hk : Knows s s1) : DInv C E ops ml ol al s0 dirty D A ρ s1 L a w := by
  rcases hk with rfl | ⟨d, b, hd, rfl⟩
  · exact h
  · refine { h with rel := hR, nodst := fun j hj hD o d' ho hd' => ?_, v0 := fun i sv hi => ?_ }
    · simp only [St.put, look_cons]
      have := h.nodst j hj hD o d' ho hd'
      rw [if_neg (fun e => by subst e; rw [hd] at this; cases this)]
      exact this
    · simp only [St.put, look_cons] at hi
      split at hi
      · cases hi; trivial
      · exact h.v0 i sv hi
theorem DInv.envOk (h : DInv C E ops ml ol al s0 dirty D A ρ s L a w) (i : Nat) : EnvOk (viewS ops.toList ml ol s0 s i) a := by
  intro k sv hk
  obtain ⟨h1, h2⟩ := h.rel.env k sv hk
  refine ⟨h1, ?_⟩
  have hv := h.v0 k sv hk
  cases sv with
  | loc t r off =>
    refine ⟨Nat.lt_of_lt_of_le h2.1 (Nat.le_add_left _ _), fun lb hl => ?_⟩
    obtain ⟨g1, _, r', cs, ty, rfl⟩ := lb_view hl
    rw [hv r' cs ty g1]
    exact ⟨cs, ty, rfl⟩
  | row t b n c =>
    refine ⟨Nat.lt_of_lt_of_le h2.1 (Nat.le_add_left _ _), fun lb hl => ?_⟩
    obtain ⟨g1, _, r', cs, ty, rfl⟩ := lb_view hl
    exact absurd g1 (hv r' cs ty)
  | rel t b e j o =>
    refine ⟨Nat.lt_of_lt_of_le h2.1 (Nat.le_add_left _ _), fun lb hl => ?_⟩
    obtain ⟨g1, _, r', cs, ty, rfl⟩ := lb_view hl
    exact absurd g1 (hv r' cs ty)
  | elem ad cs off => exact hv
  | val v => trivial
  | kn b => trivial
theorem view_blkOk (hb0 : BlkOk s0) (i : Nat) : BlkOk (viewS ops.toList ml ol s0 s i) := by
  intro t r cs ty hl sv hsv
  obtain ⟨g1, _, _⟩ := lb_view hl
  have h := hb0 t r cs ty g1 sv hsv
  cases sv with
  | loc u r' off => exact ⟨Nat.lt_of_lt_of_le h.1 (Nat.le_add_right _ _), fun lb hl => h.2 lb (lb_view hl).1⟩
  | row u b n c => exact ⟨Nat.lt_of_lt_of_le h.1 (Nat.le_add_right _ _), fun lb hl => h.2 lb (lb_view hl).1⟩
  | rel u b e j o => exact ⟨Nat.lt_of_lt_of_le h.1 (Nat.le_add_right _ _), fun lb hl => h.2 lb (lb_view hl).1⟩
  | elem ad cs' off => exact h
  | val v => trivial
  | kn b => trivial
/-- What is taken first may be held on to. -/
theorem DInv.orig (h : DInv C E ops ml ol al s0 dirty D A ρ s L a w) (hb0 : BlkOk s0) {i : Nat} {sv : SV} (ho : Orig (viewS ops.toList ml ol s0 s i) sv) : cleanSV dirty sv = true → svOk s sv ∧ V0 s0 sv := by
  induction ho with
  | val v => exact fun _ => ⟨trivial, trivial⟩
  | kn b => exact fun _ => ⟨trivial, trivial⟩
  | env hk => exact fun _ => ⟨(h.rel.env _ _ hk).2, h.v0 _ _ hk⟩
  | locOff _ ih => exact fun hc => ih hc
  | elemOff _ ih => exact fun hc => ih hc
  | relOff _ ih => exact fun hc => ih hc
  | elem hc => exact fun _ => ⟨fun j v hj => h.le.cell (hc j v hj), hc⟩
  | rel hr hl =>
    intro _
    obtain ⟨_, _, r, cs, ty, e⟩ := lb_view hl
    cases e
  | @cell t r cs ty sv hl hm =>
    intro hc
    obtain ⟨g1, _, _⟩ := lb_view hl
    have hsv := hb0 t r cs ty g1 sv hm
    cases sv with
    | loc u r' off =>
      refine ⟨⟨Nat.lt_of_lt_of_le hsv.1 h.nx, fun lb hlb => ?_⟩, fun r2 cs2 ty2 g => ?_⟩
      · obtain ⟨lb0, k1, k2⟩ := h.stay u lb hsv.1 hlb
        obtain ⟨cs3, ty3, rfl⟩ := hsv.2 lb0 k1
        rcases k2 with k2 | ⟨_, ⟨_, _, _, _, _, k3⟩, _⟩
        · cases lb <;> simp only [LB.alike] at k2
          subst k2
          exact ⟨_, _, rfl⟩
        · cases k3
      · obtain ⟨_, _, e⟩ := hsv.2 _ g
        cases e; rfl
    | row u b n c =>
      simp only [cleanSV, Bool.not_eq_true', memN_false] at hc
      refine ⟨⟨Nat.lt_of_lt_of_le hsv.1 h.nx, fun lb hlb => ?_⟩, fun r2 cs2 ty2 g => ?_⟩
      · obtain ⟨lb0, k1, k2⟩ := h.stay u lb hsv.1 hlb
        obtain ⟨ty3, es3, xs3, rfl, hn⟩ := hsv.2 lb0 k1
        rcases k2 with k2 | ⟨k2, _⟩
        · cases lb <;> simp only [LB.alike] at k2
          obtain ⟨rfl, rfl, rfl, k3⟩ := k2
          exact ⟨_, _, _, rfl, by omega⟩
        · exact absurd k2 hc
      · obtain ⟨_, _, _, e, _⟩ := hsv.2 _ g
        cases e
    | rel u b e j o =>
      simp only [cleanSV, Bool.not_eq_true', memN_false] at hc
      refine ⟨⟨Nat.lt_of_lt_of_le hsv.1 h.nx, fun lb hlb => ?_⟩, fun r2 cs2 ty2 g => ?_⟩
      · obtain ⟨lb0, k1, k2⟩ := h.stay u lb hsv.1 hlb
        obtain ⟨cap3, ty3, xs3, rfl, hn⟩ := hsv.2 lb0 k1
        rcases k2 with k2 | ⟨k2, _⟩
        · cases lb <;> simp only [LB.alike] at k2
          obtain ⟨rfl, rfl, rfl, k3⟩ := k2
          exact ⟨_, _, _, rfl, by omega⟩
        · exact absurd k2 hc
      · obtain ⟨_, _, _, e, _⟩ := hsv.2 _ g
        cases e
    | elem ad cs' off => exact ⟨fun j v hj => h.le.cell (hsv j v hj), hsv⟩
    | val v => exact ⟨trivial, trivial⟩
    | kn b => exact ⟨trivial, trivial⟩
theorem getD_set_self {L : Array Bool} {i : Nat} (h : i < L.size) : (L.setIfInBounds i true).getD i true = true := by
  simp [h]
theorem lst_set {L : Array Bool} {n i : Nat} {D A : Nat → Prop} (hs : L.size = n) (hi : i < n) (h : ∀ k, k < n → (L.getD k true = true ↔ D k ∨ A k)) : ∀ k, k < n → ((L.setIfInBounds i true).getD k true = true ↔ k = i ∨ D k ∨ A k) := by
  intro k hk
  by_cases e : k = i
  · subst e; simp only [true_or, iff_true]; exact getD_set_self (by omega)
  · rw [getD_set_ne true (fun h => e h.symm), h k hk]
    simp [e]
/-- An operation other than a new variable has been carried out, or passed by. -/
theorem DInv.done (h : DInv C E ops ml ol al s0 dirty D A ρ s L a w) (hal : AlOk C ops al) {i : Nat} {o : Oper} (hi : ops[i]? = some o) (hna : i ∉ al) (hready : i ∈ Region.ready .any ops L)
    {s' : St} {v : Value} {w' : World} {dirty' : List Nat} (hR : Rel E (a.put o.dst v) w' s')
    (hlbs : ∀ r, r < w.heap.size → s.mem r = none → s.own r = none → (∀ t lb, s.lb t = some lb → lb.blk? ≠ some r) → s'.mem r = none ∧ s'.own r = none ∧ ∀ t lb, s'.lb t = some lb → lb.blk? ≠ some r)
    (hheap : ∀ b, b < w.heap.size → s.own b = none → (∀ t lb, s.lb t = some lb → lb.blk? ≠ some b) → w'.heap[b]? = w.heap[b]?) (hown : i ∉ ol → s'.own = s.own)
    (henv : ∀ d, o.dst ≠ some d → look s.env d = none → look s'.env d = none) (hss : SS s0 ml ol (L.setIfInBounds i true) w') (hle : s.mem.Le s'.mem)
    (hv0 : ∀ i sv, look s'.env i = some sv → V0 s0 sv) (hnx : s.nxt ≤ s'.nxt)
    (hb : ∀ t r cs ty, s.lb t = some (.cells r cs ty) → (∃ cs' ty', s'.lb t = some (.cells r cs' ty')) ∨ s'.mem r ≠ none)
    (hstay : ∀ t lb, t < s0.nxt → s'.lb t = some lb → ∃ lb0, s0.lb t = some lb0 ∧ (lb0.alike lb ∨ (t ∈ dirty' ∧ IsRow lb0 ∧ IsRow lb))) :
    DInv C E ops ml ol al s0 dirty' (fun k => k = i ∨ D k) A ρ s' (L.setIfInBounds i true) (a.put o.dst v) w' := by
  have hlt : i < ops.size := (Array.getElem?_eq_some_iff.1 hi).1
  refine ⟨hR, by simp [h.size], fun k hk => ?_, h.closed.set hready, fun j hj => ⟨(h.sub j hj).1, fun e => ?_⟩, fun j hj => ?_, h.inj, fun j hj hD oj d hoj hd => ?_, hss, h.le.trans hle, hv0, Nat.le_trans h.nx hnx, fun t r cs ty g => ?_, hstay, fun hx => ?_⟩
  · rw [lst_set h.size hlt h.lst k hk]
    exact or_assoc.symm
  · rcases e with rfl | e
    · exact hna (h.sub j hj).1
    · exact (h.sub j hj).2 e
  · obtain ⟨oj, t, d, ti, g1, g2, g3, g4, g5, g6, g7, g8, g9, g10⟩ := h.pend j hj
    have hjal := (h.sub j hj).1
    have hne : o.dst ≠ some d := hal.sole j hjal oj d g1 g3 i o hi (fun e => hna (e ▸ hjal))
    have hr : ρ j < w.heap.size := (Array.getElem?_eq_some_iff.1 g6).1
    obtain ⟨k1, k0, k2⟩ := hlbs _ hr g7 g8 g9
    refine ⟨oj, t, d, ti, g1, g2, g3, g4, ?_, ?_, k1, k0, k2, g10⟩
    · cases hd : o.dst with
      | none => exact g5
      | some d' =>
        simp only [Act.put, Array.getElem?_setIfInBounds]
        rw [if_neg (fun e => hne (by rw [hd, e]))]
        exact g5
    · rw [hheap _ hr g8 g9]; exact g6
  · have hjD : ¬ D j := fun e => hD (.inr e)
    exact henv d (hal.sole j hj oj d hoj hd i o hi (fun e => hD (.inl e.symm))) (h.nodst j hj hjD oj d hoj hd)
  · rcases h.b0 t r cs ty g with ⟨cs', ty', g⟩ | g
    · exact hb _ _ _ _ g
    · refine .inr ?_
      cases hm : s.mem r with
      | none => exact absurd hm g
      | some o => rw [hle _ _ hm]; simp
  · have hi' : i ∉ ol := fun e => by
      have := hx i e
      rw [getD_set_self (by rw [h.size]; exact hlt)] at this
      cases this
    rw [hown hi']
    exact h.own0 fun x hxo => by
      have := hx x hxo
      have hne : i ≠ x := fun e => hi' (by rw [e]; exact hxo)
      rwa [getD_set_ne true hne] at this
end
end Go.Vx
