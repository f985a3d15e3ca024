/- A region whose order is drawn ends as the generator says, whatever is drawn. -/
import Derived.Test.YtjgohkogcdmbdaaVxN
namespace Go.Vx
/-! ### The searches -/
theorem memN_iff {n : Nat} : ∀ {l : List Nat}, memN n l = true ↔ n ∈ l
  | [] => by simp [memN]
  | m :: r => by
    simp only [memN]
    split
    · rename_i h; have := Nat.eq_of_beq_eq_true h; simp [this]
    · rename_i h
      have : n ≠ m := fun e => by subst e; simp at h
      rw [memN_iff]
      simp [this]
theorem memN_false {n : Nat} {l : List Nat} : memN n l = false ↔ n ∉ l := by
  rw [← memN_iff]; cases memN n l <;> simp
theorem depsIn_iff {done : List Nat} : ∀ {es : List Edge}, depsIn done es = true ↔ ∀ e ∈ es, Region.binds .any e = true → e.on ∈ done
  | [] => by simp [depsIn]
  | e :: r => by
    simp only [depsIn]
    split
    · rename_i h1 h2
      rw [memN_false] at h2
      simp [h1, h2]
    · rename_i h
      rw [depsIn_iff]
      refine ⟨fun g x hx hb => ?_, fun g x hx hb => g x (by simp [hx]) hb⟩
      rcases List.mem_cons.1 hx with rfl | hx
      · cases hm : memN x.on done with
        | true => exact memN_iff.1 hm
        | false => exact absurd hm (h hb)
      · exact g x hx hb
theorem onEdge_iff {i : Nat} : ∀ {es : List Edge}, onEdge i es = true ↔ ∃ e ∈ es, Region.binds .any e = true ∧ e.on = i
  | [] => by simp [onEdge]
  | e :: r => by
    simp only [onEdge]
    split
    · rename_i h1 h2
      have h2 := Nat.eq_of_beq_eq_true h2
      simp only [true_iff]
      exact ⟨e, by simp, h1, h2⟩
    · rename_i h
      rw [onEdge_iff]
      constructor
      · rintro ⟨x, hx, h1, h2⟩; exact ⟨x, by simp [hx], h1, h2⟩
      · rintro ⟨x, hx, h1, h2⟩
        rcases List.mem_cons.1 hx with rfl | hx
        · exact absurd (by rw [h2]; exact Nat.beq_refl i) (h h1)
        · exact ⟨x, hx, h1, h2⟩
theorem firstQ_spec {done : List Nat} : ∀ {l : List Oper} {k i : Nat}, firstQ done k l = some i → ∃ o, k ≤ i ∧ l[i - k]? = some o ∧ quietOp o.op = true ∧ i ∉ done ∧ depsIn done o.after.toList = true
  | [], _, _, h => by cases h
  | o :: r, k, i, h => by
    simp only [firstQ] at h
    split at h
    · rename_i h1 h2 h3
      cases h
      exact ⟨o, Nat.le_refl _, by simp, h1, memN_false.1 h2, h3⟩
    · obtain ⟨o', h1, h2, h3⟩ := firstQ_spec h
      exact ⟨o', by omega, by rw [show i - k = (i - (k + 1)) + 1 from by omega]; simpa using h2, h3⟩
theorem candsOf_spec {done al : List Nat} : ∀ {l : List Oper} {k j : Nat}, j ∈ candsOf done al k l ↔ ∃ o, k ≤ j ∧ l[j - k]? = some o ∧ j ∉ done ∧ j ∉ al ∧ depsIn (al ++ done) o.after.toList = true
  | [], k, j => by simp [candsOf]
  | o :: r, k, j => by
    have ih := candsOf_spec (done := done) (al := al) (l := r) (k := k + 1) (j := j)
    have step : (∃ o', k + 1 ≤ j ∧ r[j - (k + 1)]? = some o' ∧ j ∉ done ∧ j ∉ al ∧ depsIn (al ++ done) o'.after.toList = true) ∨ (j = k ∧ j ∉ done ∧ j ∉ al ∧ depsIn (al ++ done) o.after.toList = true) ↔
        ∃ o', k ≤ j ∧ (o :: r)[j - k]? = some o' ∧ j ∉ done ∧ j ∉ al ∧ depsIn (al ++ done) o'.after.toList = true := by
      constructor
      · rintro (⟨o', h1, h2, h3⟩ | ⟨rfl, h3⟩)
        · exact ⟨o', by omega, by rw [show j - k = (j - (k + 1)) + 1 from by omega]; simpa using h2, h3⟩
        · exact ⟨o, Nat.le_refl _, by simp, h3⟩
      · rintro ⟨o', h1, h2, h3⟩
        by_cases hj : j = k
        · subst hj
          simp only [Nat.sub_self, List.getElem?_cons_zero, Option.some.injEq] at h2
          subst h2
          exact .inr ⟨rfl, h3⟩
        · exact .inl ⟨o', by omega, by rw [show j - k = (j - (k + 1)) + 1 from by omega] at h2; simpa using h2, h3⟩
    rw [← step, ← ih]
    simp only [candsOf]
    split
    · rename_i h1 h2 h3
      rw [memN_false] at h1 h2
      rw [List.mem_cons]
      constructor
      · rintro (rfl | h)
        · exact .inr ⟨rfl, h1, h2, h3⟩
        · exact .inl h
      · rintro (h | ⟨rfl, _⟩)
        · exact .inr h
        · exact .inl rfl
    · rename_i h
      constructor
      · exact .inl
      · rintro (h' | ⟨rfl, h1, h2, h3⟩)
        · exact h'
        · exact (h (memN_false.2 h1) (memN_false.2 h2) h3).elim
theorem allocIdx_spec : ∀ {l : List Oper} {k j : Nat}, j ∈ allocIdx k l ↔ ∃ o, k ≤ j ∧ l[j - k]? = some o ∧ allocOp o = true
  | [], k, j => by simp [allocIdx]
  | o :: r, k, j => by
    have ih := allocIdx_spec (l := r) (k := k + 1) (j := j)
    have step : (∃ o', k + 1 ≤ j ∧ r[j - (k + 1)]? = some o' ∧ allocOp o' = true) ∨ (j = k ∧ allocOp o = true) ↔ ∃ o', k ≤ j ∧ (o :: r)[j - k]? = some o' ∧ allocOp o' = true := by
      constructor
      · rintro (⟨o', h1, h2, h3⟩ | ⟨rfl, h3⟩)
        · exact ⟨o', by omega, by rw [show j - k = (j - (k + 1)) + 1 from by omega]; simpa using h2, h3⟩
        · exact ⟨o, Nat.le_refl _, by simp, h3⟩
      · rintro ⟨o', h1, h2, h3⟩
        by_cases hj : j = k
        · subst hj
          simp only [Nat.sub_self, List.getElem?_cons_zero, Option.some.injEq] at h2
          subst h2
          exact .inr ⟨rfl, h3⟩
        · exact .inl ⟨o', by omega, by rw [show j - k = (j - (k + 1)) + 1 from by omega] at h2; simpa using h2, h3⟩
    rw [← step, ← ih]
    simp only [allocIdx]
    split
    · rename_i h
      rw [List.mem_cons]
      constructor
      · rintro (rfl | g)
        · exact .inr ⟨rfl, h⟩
        · exact .inl g
      · rintro (g | ⟨rfl, _⟩)
        · exact .inr g
        · exact .inl rfl
    · rename_i h
      constructor
      · exact .inl
      · rintro (g | ⟨rfl, g⟩)
        · exact g
        · rw [h] at g; cases g
theorem allocOp_spec {o : Oper} (h : allocOp o = true) : ∃ t d, o.op = .alloc t ∧ o.guard = none ∧ o.dst = some d ∧ o.after.toList = [] := by
  unfold allocOp at h
  split at h
  · rename_i h1 h2 h3 h4; exact ⟨_, _, h1, h2, h3, h4⟩
  · cases h
theorem freeQ_spec {ops : Array Oper} {done : List Nat} {i : Nat} {oi : Oper} : ∀ {l : List Oper} {k : Nat}, freeQ ops done i oi k l = true → ∀ j o, k ≤ j → l[j - k]? = some o → j ∉ done → j ≠ i → (∀ e ∈ o.after, Region.binds .any e = true → e.on ≠ i) → oi.apart ops o = true
  | [], _, _, j, o, _, h, _, _, _ => by simp at h
  | x :: r, k, h, j, o, hk, ho, h1, h2, h3 => by
    simp only [freeQ] at h
    split at h
    · cases h
    · rename_i hn
      by_cases hj : j = k
      · subst hj
        simp only [Nat.sub_self, List.getElem?_cons_zero, Option.some.injEq] at ho
        subst ho
        cases ha : oi.apart ops x with
        | true => rfl
        | false =>
          refine (hn (memN_false.2 h1) ?_ ?_ ha).elim
          · cases hb : Nat.beq j i with
            | false => rfl
            | true => exact absurd (Nat.eq_of_beq_eq_true hb) h2
          · cases hb : onEdge i x.after.toList with
            | false => rfl
            | true =>
              obtain ⟨e, he, g1, g2⟩ := onEdge_iff.1 hb
              exact absurd g2 (h3 e (by simpa using he) g1)
      · exact freeQ_spec h j o (by omega) (by rw [show j - k = (j - (k + 1)) + 1 from by omega] at ho; simpa using ho) h1 h2 h3
theorem soleDst_spec {d j : Nat} : ∀ {l : List Oper} {k : Nat}, soleDst d j k l = true → ∀ i o, k ≤ i → l[i - k]? = some o → i ≠ j → o.dst ≠ some d
  | [], _, _, i, o, _, h, _ => by simp at h
  | x :: r, k, h, i, o, hk, ho, hij => by
    by_cases hi : i = k
    · subst hi
      simp only [Nat.sub_self, List.getElem?_cons_zero, Option.some.injEq] at ho
      subst ho
      intro hd
      have hb : Nat.beq i j = false := by
        cases hb : Nat.beq i j with
        | false => rfl
        | true => exact absurd (Nat.eq_of_beq_eq_true hb) hij
      simp only [soleDst, hb, hd, Nat.beq_refl] at h
      cases h
    · refine soleDst_spec (l := r) (k := k + 1) ?_ i o (by omega) (by rw [show i - k = (i - (k + 1)) + 1 from by omega] at ho; simpa using ho) hij
      simp only [soleDst] at h
      split at h
      · split at h
        · cases h
        · exact h
      · exact h
theorem memP_spec {i t : Nat} : ∀ {l : List (Nat × Nat)}, memP i t l = true → (i, t) ∈ l
  | [], h => by cases h
  | (j, u) :: r, h => by
    simp only [memP] at h
    split at h
    · rename_i h1 h2
      have h1 := Nat.eq_of_beq_eq_true h1
      have h2 := Nat.eq_of_beq_eq_true h2
      simp [h1, h2]
    · exact List.mem_cons_of_mem _ (memP_spec h)
theorem ahead_spec {ops : Array Oper} {L : Array Bool} (hc : Closed ops L) {i : Nat} : ∀ {n x : Nat}, ahead ops.toList i n x = true → L.getD x true = true → L.getD i true = true
  | 0, _, h, _ => by cases h
  | n + 1, x, h, hx => by
    simp only [ahead] at h
    split at h
    · rename_i o ho
      have key : ∀ es : List Edge, (∀ e ∈ es, e ∈ o.after) → aheadE (ahead ops.toList i n) i es = true → L.getD i true = true := by
        intro es
        induction es with
        | nil => intro _ h; cases h
        | cons e r ih =>
          intro hm h
          simp only [aheadE] at h
          split at h
          · rename_i hb
            have he := hc x o (by simpa using ho) hx e (hm e (by simp)) hb
            split at h
            · rename_i h1
              rw [← Nat.eq_of_beq_eq_true h1]; exact he
            · split at h
              · rename_i h2
                exact ahead_spec hc h2 he
              · exact ih (fun y hy => hm y (by simp [hy])) h
          · exact ih (fun y hy => hm y (by simp [hy])) h
      exact key o.after.toList (fun e he => by simpa using he) h
    · cases h
theorem cleanT_spec {ops : List Oper} {i t : Nat} : ∀ {l : List (Nat × Nat)}, cleanT ops i t l = true → ∀ x, (x, t) ∈ l → ahead ops i 20 x = true
  | [], _, x, h => by cases h
  | (y, u) :: r, h, x, hx => by
    simp only [cleanT] at h
    split at h
    · rename_i hb
      have hb := Nat.eq_of_beq_eq_true hb
      split at h
      · rename_i ha
        rcases List.mem_cons.1 hx with e | hx
        · cases e; exact ha
        · exact cleanT_spec h x hx
      · cases h
    · rename_i hb
      rcases List.mem_cons.1 hx with e | hx
      · cases e; simp at hb
      · exact cleanT_spec h x hx
theorem modIdx_spec {ops : List Oper} {s0 : St} : ∀ {l : List Oper} {k : Nat} {ml : List (Nat × Nat)}, modIdx ops s0 k l = some ml → ∀ x t, (x, t) ∈ ml → ∃ o ty a b, k ≤ x ∧ l[x - k]? = some o ∧ o.op = .store ty a b
  | [], k, ml, h, x, t, hx => by cases h; cases hx
  | o :: r, k, ml, h, x, t, hx => by
    have up : ∀ {ml'}, modIdx ops s0 (k + 1) r = some ml' → (x, t) ∈ ml' → ∃ o' ty a b, k ≤ x ∧ (o :: r)[x - k]? = some o' ∧ o'.op = .store ty a b := fun h1 h2 => by
      obtain ⟨o', ty, a, b, g1, g2, g3⟩ := modIdx_spec h1 x t h2
      exact ⟨o', ty, a, b, by omega, by rw [show x - k = (x - (k + 1)) + 1 from by omega]; simpa using g2, g3⟩
    simp only [modIdx] at h
    split at h
    · rename_i ty a b hop
      split at h
      · rename_i h1 h2
        cases h
        rcases List.mem_cons.1 hx with e | hx
        · cases e
          exact ⟨o, ty, a, b, Nat.le_refl _, by simp, hop⟩
        · exact up h2 hx
      · rename_i h1 h2
        cases h
        exact up h2 hx
      · cases h
    · exact up h hx
theorem okK_spec {b : Bool} {A : Prop} (h : okK b A) : b = true ∧ A := by
  unfold okK at h
  split at h
  · exact ⟨rfl, h⟩
  · exact h.elim

/-! ### What an operation that is taken first may lean on -/
def V0 (s0 : St) : SV → Prop
  | .loc t r _ => ∀ r' cs ty, s0.lb t = some (.cells r' cs ty) → r' = r
  | .row t _ _ _ => ∀ r cs ty, s0.lb t ≠ some (.cells r cs ty)
  | .rel t _ _ _ _ => ∀ r cs ty, s0.lb t ≠ some (.cells r cs ty)
  | .elem a cs _ => ∀ j v, cs[j]? = some v → s0.mem.cell (a.add j) = some v
  | _ => True
theorem lb_view {ops : List Oper} {ml : List (Nat × Nat)} {ol : List Nat} {s0 s : St} {i t : Nat} {lb : LB} (h : (viewS ops ml ol s0 s i).lb t = some lb) : s0.lb t = some lb ∧ cleanT ops i t ml = true ∧ ∃ r cs ty, lb = .cells r cs ty := by
  have key : ∀ l : List (Nat × Option LB), look (viewB ops ml i l) t = some (some lb) → look l t = some (some lb) ∧ cleanT ops i t ml = true ∧ ∃ r cs ty, lb = .cells r cs ty := by
    intro l
    induction l with
    | nil => intro h; cases h
    | cons p l ih =>
      obtain ⟨u, x⟩ := p
      intro h
      match x with
      | some (.cells r cs ty) =>
        simp only [viewB] at h
        split at h
        · rename_i hc
          rw [look_cons] at h ⊢
          split at h
          · rename_i e
            subst e
            cases h
            exact ⟨by simp, hc, _, _, _, rfl⟩
          · rename_i e
            rw [if_neg e]
            exact ih h
        · rw [look_cons] at h ⊢
          split at h
          · cases h
          · rename_i e; rw [if_neg e]; exact ih h
      | some (.row ..) =>
        simp only [viewB] at h
        rw [look_cons] at h ⊢
        split at h
        · cases h
        · rename_i e; rw [if_neg e]; exact ih h
      | some (.map ..) =>
        simp only [viewB] at h
        rw [look_cons] at h ⊢
        split at h
        · cases h
        · rename_i e; rw [if_neg e]; exact ih h
      | none =>
        simp only [viewB] at h
        rw [look_cons] at h ⊢
        split at h
        · cases h
        · rename_i e; rw [if_neg e]; exact ih h
  obtain ⟨h1, h2, h3⟩ := key s0.blk (lb_look h)
  exact ⟨by unfold St.lb; rw [h1], h2, h3⟩
/-- The worlds in which what has come up has come up. -/
def SS (s0 : St) (ml : List (Nat × Nat)) (ol : List Nat) (L : Array Bool) (w : World) : Prop :=
  Holds s0.mem w ∧ (∀ t r cs ty, s0.lb t = some (.cells r cs ty) → (∀ x, (x, t) ∈ ml → L.getD x true = false) → (LB.cells r cs ty).fits (fun b => w.heap[b]?)) ∧ ((∀ x ∈ ol, L.getD x true = false) → Holds s0.own w)
theorem SS_quiet {s0 : St} {ml : List (Nat × Nat)} {ol : List Nat} {i : Nat} (hi : ∀ t, (i, t) ∉ ml) (ho : i ∉ ol) (L : Array Bool) (w : World) : SS s0 ml ol (L.setIfInBounds i true) w ↔ SS s0 ml ol L w := by
  have e : ∀ t, (∀ x, (x, t) ∈ ml → (L.setIfInBounds i true).getD x true = false) ↔ ∀ x, (x, t) ∈ ml → L.getD x true = false := fun t => by
    constructor
    · intro h x hx; rw [← getD_set_ne (i := i) true (fun e => by subst e; exact hi t hx)]; exact h x hx
    · intro h x hx; rw [getD_set_ne (i := i) true (fun e => by subst e; exact hi t hx)]; exact h x hx
  have e' : (∀ x ∈ ol, (L.setIfInBounds i true).getD x true = false) ↔ ∀ x ∈ ol, L.getD x true = false := by
    constructor
    · intro h x hx; rw [← getD_set_ne (i := i) true (fun e => by subst e; exact ho hx)]; exact h x hx
    · intro h x hx; rw [getD_set_ne (i := i) true (fun e => by subst e; exact ho hx)]; exact h x hx
  unfold SS
  simp only [e, e']
theorem cleanO_spec {ops : List Oper} {i : Nat} : ∀ {l : List Nat}, cleanO ops i l = true → ∀ x ∈ l, ahead ops i 20 x = true
  | [], _, x, h => by cases h
  | y :: l, h, x, hx => by
    simp only [cleanO] at h
    split at h
    · rename_i ha
      rcases List.mem_cons.1 hx with e | hx
      · subst e; exact ha
      · exact cleanO_spec h x hx
    · cases h
theorem ownIdx_spec {ops : List Oper} {s0 : St} : ∀ {l : List Oper} {k : Nat} {x : Nat}, x ∈ ownIdx ops s0 k l → ∃ o, k ≤ x ∧ l[x - k]? = some o ∧ quietOp o.op = false ∧ allocOp o = false
  | [], k, x, h => by cases h
  | o :: r, k, x, h => by
    have up : x ∈ ownIdx ops s0 (k + 1) r → ∃ o', k ≤ x ∧ (o :: r)[x - k]? = some o' ∧ quietOp o'.op = false ∧ allocOp o' = false := fun h => by
      obtain ⟨o', g1, g2, g3⟩ := ownIdx_spec h
      exact ⟨o', by omega, by rw [show x - k = (x - (k + 1)) + 1 from by omega]; simpa using g2, g3⟩
    simp only [ownIdx] at h
    split at h
    · rename_i ty a b hop
      have ha : allocOp o = false := by unfold allocOp; rw [hop]
      split at h
      · exact up h
      · rcases List.mem_cons.1 h with e | h
        · subst e; exact ⟨o, Nat.le_refl _, by simp, by rw [hop]; rfl, ha⟩
        · exact up h
    · rename_i c hop
      have ha : allocOp o = false := by unfold allocOp; rw [hop]
      split at h
      · rename_i f hc
        rcases List.mem_cons.1 h with e | h
        · subst e; exact ⟨o, Nat.le_refl _, by simp, by rw [hop]; simp only [quietOp, hc], ha⟩
        · exact up h
      · exact up h
    · exact up h
theorem owOk_spec {ol : List Nat} {i : Nat} {b : Bool} (h : owOk ol i b = true) : b = false ∨ i ∈ ol := by
  unfold owOk at h
  split at h
  · exact .inr (memN_iff.1 h)
  · exact .inl rfl
theorem view_sees {ops : Array Oper} {ml : List (Nat × Nat)} {ol : List Nat} {s0 s : St} {i : Nat} {w : World} (h : Pend ops (SS s0 ml ol) i w) : SeesO (viewS ops.toList ml ol s0 s i) w := by
  obtain ⟨L, hc, hi, h1, h2, h3⟩ := h
  have hbehind : ∀ x, ahead ops.toList i 20 x = true → L.getD x true = false := fun x hx => by
    cases hLx : L.getD x true with
    | false => rfl
    | true =>
      have := ahead_spec hc hx hLx
      rw [this] at hi
      cases hi
  refine ⟨⟨h1, fun t lb hl => ?_⟩, ?_⟩
  rotate_left
  · simp only [viewS]
    split
    · rename_i ho
      exact h3 fun x hx => hbehind x (cleanO_spec ho x hx)
    · exact fun b o h => nomatch h
  obtain ⟨g1, g2, r, cs, ty, rfl⟩ := lb_view hl
  refine h2 t r cs ty g1 fun x hx => ?_
  cases hLx : L.getD x true with
  | false => rfl
  | true =>
    have := ahead_spec hc (cleanT_spec g2 x hx) hLx
    rw [this] at hi
    cases hi
end Go.Vx
