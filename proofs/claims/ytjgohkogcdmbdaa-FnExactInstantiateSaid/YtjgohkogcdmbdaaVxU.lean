/- Data as trees; what memory holds of them: frozen (Rep), owned (Own); contracts framed, lent, thawed. -/
import Derived.Test.YtjgohkogcdmbdaaVxT
namespace Go.Vx
inductive D where
  | i (n : Int)
  | b (x : Bool)
  | s (x : ByteArray)
  | st (fs : List D)
  | sl (es : Nat) (xs : List D)
mutual
def D.n : D → Nat
  | .st fs => D.ns fs
  | .i _ => 1
  | .b _ => 1
  | .s _ => 1
  | .sl _ _ => 1
def D.ns : List D → Nat
  | [] => 0
  | d :: r => d.n + D.ns r
end
/-- A slice's length and capacity. -/
structure Lens (n cap : Nat) : Prop where
  le : n ≤ cap
  max : n ≤ maxLen
mutual
/-- Cells that stand for data, in frozen memory. -/
def Rep (μ : Mem) : D → List Value → Prop
  | .i n, cs => cs = [.int .i64 n]
  | .b x, cs => cs = [.bool x]
  | .s x, cs => cs = [.string x]
  | .st fs, cs => RepS μ fs cs
  | .sl es xs, cs => ∃ base cap, cs = [.slice base xs.length cap] ∧ Lens xs.length cap ∧ (∀ x ∈ xs, x.n = es) ∧ (xs = [] ∨ ∃ a0 flat, base = some a0 ∧ CellsAt μ a0 flat ∧ RepS μ xs flat)
def RepS (μ : Mem) : List D → List Value → Prop
  | [], cs => cs = []
  | d :: r, cs => ∃ c1 c2, cs = c1 ++ c2 ∧ Rep μ d c1 ∧ RepS μ r c2
end
mutual
/-- Cells that stand for data, all of whose memory is h: each slice in a block of its own. -/
def Own : D → Mem → List Value → Prop
  | .i n, h, cs => cs = [.int .i64 n] ∧ h = Mem.nil
  | .b x, h, cs => cs = [.bool x] ∧ h = Mem.nil
  | .s x, h, cs => cs = [.string x] ∧ h = Mem.nil
  | .st fs, h, cs => OwnS fs h cs
  | .sl es xs, h, cs => ∃ base cap, cs = [.slice base xs.length cap] ∧ Lens xs.length cap ∧ (∀ x ∈ xs, x.n = es) ∧
      ((xs = [] ∧ h = Mem.nil) ∨ ∃ r flat rest ty h2, base = some ⟨r, 0, none⟩ ∧ h2 r = none ∧ h = h2.set r (.cells (List.toArray (flat ++ rest)) ty (0, 0)) ∧ OwnS xs h2 flat)
def OwnS : List D → Mem → List Value → Prop
  | [], h, cs => cs = [] ∧ h = Mem.nil
  | d :: r, h, cs => ∃ c1 c2 h1 h2, cs = c1 ++ c2 ∧ Parts h h1 h2 ∧ Own d h1 c1 ∧ OwnS r h2 c2
end
/-- A value that stands for data. -/
def RepV (μ : Mem) : D → Value → Prop
  | .st fs, v => ∃ cs, v = .agg (List.toArray cs) ∧ RepS μ fs cs
  | d, v => Rep μ d [v]
def OwnV : D → Mem → Value → Prop
  | .st fs, h, v => ∃ cs, v = .agg (List.toArray cs) ∧ OwnS fs h cs
  | d, h, v => Own d h [v]
section
variable {μ μ' : Mem}
theorem CellsAt.set {h : Mem} {r : Nat} {flat rest : List Value} {ty : TypeId} : CellsAt (h.set r (.cells (List.toArray (flat ++ rest)) ty (0, 0))) ⟨r, 0, none⟩ flat := fun j v hj => by
  rw [Addr.add_lit', Nat.zero_add]
  have hlt : j < flat.length := (List.getElem?_eq_some_iff.1 hj).1
  simp [Mem.cell, Mem.set_get, List.getElem?_append_left hlt, hj]
mutual
theorem Rep.mono (h : μ.Le μ') : ∀ (d : D) (cs : List Value), Rep μ d cs → Rep μ' d cs
  | .i _, _, k => k
  | .b _, _, k => k
  | .s _, _, k => k
  | .st fs, cs, k => RepS.mono h fs cs k
  | .sl es xs, cs, k => by
    obtain ⟨base, cap, h1, h2, h3, h4⟩ := k
    refine ⟨base, cap, h1, h2, h3, h4.imp id ?_⟩
    rintro ⟨a0, flat, g1, g2, g3⟩
    exact ⟨a0, flat, g1, g2.mono h, RepS.mono h xs flat g3⟩
theorem RepS.mono (h : μ.Le μ') : ∀ (l : List D) (cs : List Value), RepS μ l cs → RepS μ' l cs
  | [], _, k => k
  | d :: r, cs, k => by
    obtain ⟨c1, c2, h1, h2, h3⟩ := k
    exact ⟨c1, c2, h1, Rep.mono h d c1 h2, RepS.mono h r c2 h3⟩
end
theorem Parts.left {h g k : Mem} (p : Parts h g k) : g.Le h := fun b o hb => by
  rcases p b with ⟨h1, _⟩ | ⟨_, h1⟩
  · rw [h1]; exact hb
  · rw [h1] at hb; cases hb
theorem Parts.symm {h g k : Mem} (p : Parts h g k) : Parts h k g := fun b => (p b).symm
theorem Parts.right {h g k : Mem} (p : Parts h g k) : k.Le h := p.symm.left
theorem Parts.eq {h h' g k : Mem} (p : Parts h g k) (q : Parts h' g k) : h = h' := funext fun b => by
  rcases p b with ⟨h1, h2⟩ | ⟨h1, h2⟩ <;> rcases q b with ⟨h3, h4⟩ | ⟨h3, h4⟩
  · rw [h1, h3]
  · rw [h1, h3, h2, h4]
  · rw [h1, h3, h2, h4]
  · rw [h1, h3]
theorem Parts.join {g k : Mem} (h : Apart g k) : Parts (g.join k) g k := fun b => by
  cases hg : g b with
  | none => exact .inr ⟨by rw [Mem.join_get, hg], rfl⟩
  | some o => exact .inl ⟨by rw [Mem.join_get, hg], h b (by simp [hg])⟩
theorem Parts.apart {h g k : Mem} (p : Parts h g k) : Apart g k := fun b hb => by
  rcases p b with ⟨_, h⟩ | ⟨_, h⟩
  · exact h
  · exact absurd h hb
theorem Parts.is_join {h g k : Mem} (p : Parts h g k) : h = g.join k := p.eq (Parts.join p.apart)
theorem Parts.nil_right (h : Mem) : Parts h h Mem.nil := fun _ => .inl ⟨rfl, rfl⟩
theorem Parts.nil_left (h : Mem) : Parts h Mem.nil h := fun _ => .inr ⟨rfl, rfl⟩
theorem Apart.symm {g k : Mem} (h : Apart g k) : Apart k g := fun b hb => by
  cases hg : g b with
  | none => rfl
  | some o => exact absurd (h b (by simp [hg])) hb
theorem Apart.nil_right (g : Mem) : Apart g Mem.nil := fun _ _ => rfl
theorem Apart.nil_left (g : Mem) : Apart Mem.nil g := fun _ h => absurd rfl h
theorem Parts.assoc {h g k k1 k2 : Mem} (p : Parts h g k) (q : Parts k k1 k2) : ∃ m, Parts m g k1 ∧ Parts h m k2 := by
  have a1 : Apart g k1 := fun b hb => by
    have := p.apart b hb
    cases h1 : k1 b with
    | none => rfl
    | some o => rw [q.left b o h1] at this; cases this
  refine ⟨g.join k1, Parts.join a1, fun b => ?_⟩
  rw [Mem.join_get]
  cases hg : g b with
  | some o =>
    have h0 := p.apart b (by simp [hg])
    refine .inl ⟨by rw [p.left b o hg], ?_⟩
    cases h2 : k2 b with
    | none => rfl
    | some o => rw [q.right b o h2] at h0; cases h0
  | none =>
    have e : h b = k b := by
      rcases p b with ⟨h1, h2⟩ | ⟨h1, _⟩
      · rw [h1, hg, h2]
      · exact h1
    simp only [e]
    exact q b
theorem Mem.set_le {h2 : Mem} {r : Nat} {o : Obj} (h : h2 r = none) : h2.Le (h2.set r o) := fun b x hb => by
  rw [Mem.set_get, if_neg (fun e => by subst e; rw [h] at hb; cases hb)]
  exact hb
mutual
/-- What is owned may be read. -/
theorem Own.rep : ∀ (d : D) (h : Mem) (cs : List Value), Own d h cs → h.Le μ → Rep μ d cs
  | .i _, _, _, k, _ => k.1
  | .b _, _, _, k, _ => k.1
  | .s _, _, _, k, _ => k.1
  | .st fs, h, cs, k, hl => OwnS.rep fs h cs k hl
  | .sl es xs, h, cs, k, hl => by
    obtain ⟨base, cap, h1, h2, h3, h4⟩ := k
    refine ⟨base, cap, h1, h2, h3, ?_⟩
    rcases h4 with ⟨g, _⟩ | ⟨r, flat, rest, ty, k2, g1, g2, g3, g4⟩
    · exact .inl g
    · exact .inr ⟨_, flat, g1, by subst g3; exact CellsAt.set.mono hl, OwnS.rep xs k2 flat g4 (by subst g3; exact (Mem.set_le g2).trans hl)⟩
theorem OwnS.rep : ∀ (l : List D) (h : Mem) (cs : List Value), OwnS l h cs → h.Le μ → RepS μ l cs
  | [], _, _, k, _ => k.1
  | d :: r, h, cs, k, hl => by
    obtain ⟨c1, c2, k1, k2, h1, h2, h3, h4⟩ := k
    exact ⟨c1, c2, h1, Own.rep d k1 c1 h3 (h2.left.trans hl), OwnS.rep r k2 c2 h4 (h2.right.trans hl)⟩
end
mutual
theorem Rep.len : ∀ (d : D) (cs : List Value), Rep μ d cs → cs.length = d.n
  | .i _, _, k => by rw [k]; rfl
  | .b _, _, k => by rw [k]; rfl
  | .s _, _, k => by rw [k]; rfl
  | .st fs, cs, k => RepS.len fs cs k
  | .sl es xs, cs, k => by obtain ⟨_, _, h, _⟩ := k; rw [h]; rfl
theorem RepS.len : ∀ (l : List D) (cs : List Value), RepS μ l cs → cs.length = D.ns l
  | [], _, k => by rw [k]; rfl
  | d :: r, cs, k => by
    obtain ⟨c1, c2, h1, h2, h3⟩ := k
    rw [h1, List.length_append, Rep.len d c1 h2, RepS.len r c2 h3]; rfl
end
mutual
theorem Rep.one : ∀ (d : D) (cs : List Value), Rep μ d cs → ∀ u ∈ cs, u.oneCell' = true
  | .i _, _, k => by rw [k]; simp [Value.oneCell']
  | .b _, _, k => by rw [k]; simp [Value.oneCell']
  | .s _, _, k => by rw [k]; simp [Value.oneCell']
  | .st fs, cs, k => RepS.one fs cs k
  | .sl es xs, cs, k => by obtain ⟨_, _, h, _⟩ := k; rw [h]; simp [Value.oneCell']
theorem RepS.one : ∀ (l : List D) (cs : List Value), RepS μ l cs → ∀ u ∈ cs, u.oneCell' = true
  | [], _, k => by rw [k]; simp
  | d :: r, cs, k => by
    obtain ⟨c1, c2, h1, h2, h3⟩ := k
    intro u hu
    rw [h1, List.mem_append] at hu
    exact hu.elim (Rep.one d c1 h2 u) (RepS.one r c2 h3 u)
end
theorem RepS.get {es : Nat} : ∀ {l : List D} {flat : List Value}, RepS μ l flat → (∀ x ∈ l, x.n = es) → ∀ {i : Nat} {x : D}, l[i]? = some x → ∃ cs, cs.length = es ∧ (∀ j v, cs[j]? = some v → flat[i * es + j]? = some v) ∧ Rep μ x cs
  | [], _, _, _, i, x, h => by simp at h
  | d :: r, flat, k, hn, i, x, h => by
    obtain ⟨c1, c2, h1, h2, h3⟩ := k
    have hl : c1.length = es := by rw [Rep.len d c1 h2]; exact hn d (by simp)
    match i with
    | 0 =>
      simp only [List.getElem?_cons_zero, Option.some.injEq] at h
      subst h
      refine ⟨c1, hl, fun j v hj => ?_, h2⟩
      rw [h1, Nat.zero_mul, Nat.zero_add, List.getElem?_append_left (List.getElem?_eq_some_iff.1 hj).1]
      exact hj
    | i + 1 =>
      obtain ⟨cs, g1, g2, g3⟩ := RepS.get h3 (fun y hy => hn y (by simp [hy])) (i := i) (by simpa using h)
      refine ⟨cs, g1, fun j v hj => ?_, g3⟩
      rw [h1, List.getElem?_append_right (by rw [hl, Nat.succ_mul]; omega), hl, show (i + 1) * es + j - es = i * es + j from by rw [Nat.succ_mul]; omega]
      exact g2 j v hj
/-- A slice that stands for a list: what a proof needs of it. -/
structure Sl (μ : Mem) (es : Nat) (base : Option Addr) (n : Nat) (xs : List D) : Prop where
  len : xs.length = n
  max : n ≤ maxLen
  get : ∀ (i : Nat) x, xs[i]? = some x → ∃ a cs, ElemAt μ base n es i a cs ∧ Rep μ x cs
theorem Rep.sl {es : Nat} {xs : List D} {v : Value} (h : Rep μ (.sl es xs) [v]) : ∃ base cap, v = .slice base xs.length cap ∧ Sl μ es base xs.length xs := by
  obtain ⟨base, cap, h1, h2, h3, h4⟩ := h
  simp only [List.cons.injEq, and_true] at h1
  refine ⟨base, cap, h1, rfl, h2.max, fun i x hx => ?_⟩
  have hi : i < xs.length := (List.getElem?_eq_some_iff.1 hx).1
  rcases h4 with rfl | ⟨a0, flat, g1, g2, g3⟩
  · simp at hx
  · obtain ⟨cs, k1, k2, k3⟩ := g3.get h3 hx
    refine ⟨a0.add (i * es), cs, ⟨by omega, by omega, ⟨a0, g1, by simp⟩, k1, fun j v hj => ?_⟩, k3⟩
    rw [add_add]
    exact g2 _ _ (k2 j v hj)
theorem RepV.cells : ∀ {d : D} {v : Value}, RepV μ d v → Rep μ d (vcells v)
  | .st fs, v, h => by obtain ⟨cs, rfl, h⟩ := h; simpa [vcells, Rep] using h
  | .i _, v, h => by cases h; rfl
  | .b _, v, h => by cases h; rfl
  | .s _, v, h => by cases h; rfl
  | .sl es xs, v, h => by
    obtain ⟨base, cap, h1, h2⟩ := h
    cases h1
    exact ⟨base, cap, rfl, h2⟩
theorem RepV.mono (h : μ.Le μ') : ∀ {d : D} {v : Value}, RepV μ d v → RepV μ' d v
  | .st fs, v, k => by obtain ⟨cs, rfl, k⟩ := k; exact ⟨cs, rfl, RepS.mono h _ _ k⟩
  | .i _, v, k => Rep.mono h (.i _) _ k
  | .b _, v, k => Rep.mono h (.b _) _ k
  | .s _, v, k => Rep.mono h (.s _) _ k
  | .sl _ _, v, k => Rep.mono h (.sl _ _) _ k
theorem OwnV.rep : ∀ {d : D} {h : Mem} {v : Value}, OwnV d h v → h.Le μ → RepV μ d v
  | .st fs, h, v, k, hl => by obtain ⟨cs, rfl, k⟩ := k; exact ⟨cs, rfl, OwnS.rep _ _ _ k hl⟩
  | .i _, _, v, k, hl => Own.rep (.i _) _ _ k hl
  | .b _, _, v, k, hl => Own.rep (.b _) _ _ k hl
  | .s _, _, v, k, hl => Own.rep (.s _) _ _ k hl
  | .sl _ _, _, v, k, hl => Own.rep (.sl _ _) _ _ k hl
theorem OwnV.cells : ∀ {d : D} {h : Mem} {v : Value}, OwnV d h v → Own d h (vcells v)
  | .st fs, _, v, h => by obtain ⟨cs, rfl, h⟩ := h; simpa [vcells, Own] using h
  | .i _, _, v, h => by obtain ⟨h1, h2⟩ := h; cases h1; exact ⟨rfl, h2⟩
  | .b _, _, v, h => by obtain ⟨h1, h2⟩ := h; cases h1; exact ⟨rfl, h2⟩
  | .s _, _, v, h => by obtain ⟨h1, h2⟩ := h; cases h1; exact ⟨rfl, h2⟩
  | .sl es xs, _, v, h => by
    obtain ⟨base, cap, h1, h2⟩ := h
    cases h1
    exact ⟨base, cap, rfl, h2⟩
/-! ### Rows -/
/-- The elements of a row stand for a list of data. -/
inductive Rows (μ : Mem) (es : Nat) : List D → List Value → Prop
  | nil : Rows μ es [] []
  | cons {d : D} {v : Value} {ds : List D} {vs : List Value} (h : RepV μ d v) (hn : d.n = es) (r : Rows μ es ds vs) : Rows μ es (d :: ds) (v :: vs)
theorem Rows.mono {es : Nat} (h : μ.Le μ') : ∀ {ds : List D} {vs : List Value}, Rows μ es ds vs → Rows μ' es ds vs
  | _, _, .nil => .nil
  | _, _, .cons k hn r => .cons (k.mono h) hn (r.mono h)
theorem Rows.append {es : Nat} : ∀ {ds : List D} {vs : List Value} {ds' : List D} {vs' : List Value}, Rows μ es ds vs → Rows μ es ds' vs' → Rows μ es (ds ++ ds') (vs ++ vs')
  | _, _, _, _, .nil, k => k
  | _, _, _, _, .cons h hn r, k => .cons h hn (r.append k)
theorem Rows.one {es : Nat} {d : D} {v : Value} (h : RepV μ d v) (hn : d.n = es) : Rows μ es [d] [v] := .cons h hn .nil
theorem Rows.len {es : Nat} : ∀ {ds : List D} {vs : List Value}, Rows μ es ds vs → ds.length = vs.length
  | _, _, .nil => rfl
  | _, _, .cons _ _ r => by simp [r.len]
theorem Rows.flat {es : Nat} : ∀ {ds : List D} {vs : List Value}, Rows μ es ds vs → RepS μ ds (vs.flatMap vcells) ∧ ∀ x ∈ ds, x.n = es
  | _, _, .nil => ⟨rfl, by simp⟩
  | _, _, .cons h hn r => ⟨⟨_, _, by simp, h.cells, r.flat.1⟩, by
      intro x hx
      rcases List.mem_cons.1 hx with rfl | hx
      · exact hn
      · exact r.flat.2 x hx⟩
theorem RowAt.le {b : Option Nat} {cap es : Nat} {ys : List Value} (h : RowAt μ b cap es ys) : ys.length ≤ cap := by
  cases b with
  | none =>
    have : ys = [] := h
    subst this; exact Nat.zero_le _
  | some r => exact h.1
/-- A slice lies within its capacity. -/
theorem Rep.lens {es : Nat} {xs : List D} {b : Option Addr} {n c : Nat} (h : Rep μ (.sl es xs) [.slice b n c]) : n ≤ c := by
  obtain ⟨b', c', h1, h2, _⟩ := h
  simp only [List.cons.injEq, and_true, Value.slice.injEq] at h1
  obtain ⟨rfl, rfl, rfl⟩ := h1
  exact h2.le
/-- A row of one's own, frozen, is a slice of data. -/
theorem Rows.sl {es : Nat} {b : Option Nat} {cap : Nat} {ds : List D} {ys : List Value} (h : RowAt μ b cap es ys) (hr : Rows μ es ds ys) (hm : ys.length ≤ maxLen) : RepV μ (.sl es ds) (.slice (b.map fun r => ⟨r, 0, none⟩) ys.length cap) := by
  have hl := hr.len
  obtain ⟨hf, hn⟩ := hr.flat
  refine ⟨b.map fun r => ⟨r, 0, none⟩, cap, by rw [hl], by rw [hl]; exact ⟨h.le, hm⟩, hn, ?_⟩
  cases b with
  | none =>
    have : ys = [] := h
    subst this
    exact .inl (List.eq_nil_of_length_eq_zero (by simpa using hl))
  | some r =>
    obtain ⟨h1, h2, arr, ty, h3, h4, h5⟩ := h
    refine .inr ⟨⟨r, 0, none⟩, ys.flatMap vcells, rfl, fun j v hj => ?_, hf⟩
    rw [Addr.add_lit', Nat.zero_add]
    have hf' : (ys.flatMap vcells).length = ys.length * es := flat_len ys fun y hy => (h2 y hy).1
    have hlt := (List.getElem?_eq_some_iff.1 hj).1
    rw [← h5, List.getElem?_take, if_pos (by omega)] at hj
    simp only [Mem.cell, h3]
    simpa using hj
/-! ### Fresh results -/
/-- A value that stands for data of its own: their memory is none that was known, and lies in what is frozen now. -/
def Fresh (μ μ' : Mem) (d : D) (v : Value) : Prop := ∃ g : Mem, OwnV d g v ∧ g.Le μ' ∧ ∀ b, g b ≠ none → μ b = none
theorem Fresh.rep {d : D} {v : Value} (h : Fresh μ μ' d v) : RepV μ' d v := by
  obtain ⟨g, h1, h2, _⟩ := h
  exact h1.rep h2
theorem Fresh.mono {μ0 μ2 : Mem} {d : D} {v : Value} (h : Fresh μ μ' d v) (hl : μ0.Le μ) (hr : μ'.Le μ2) : Fresh μ0 μ2 d v := by
  obtain ⟨g, h1, h2, h3⟩ := h
  refine ⟨g, h1, h2.trans hr, fun b hb => ?_⟩
  cases h0 : μ0 b with
  | none => rfl
  | some o => have := h3 b hb; rw [hl b o h0] at this; cases this
end
end Go.Vx
