/- Contracts framed, lent, thawed. -/
import Derived.Test.YtjgohkogcdmbdaaVxU
namespace Go.Vx
section
variable {P : Program} {f : FuncId} {args : List Value} {μ h0 : Mem}
/-- Memory without the blocks of g. -/
def Mem.sub (μ g : Mem) : Mem := fun b => match g b with | some _ => none | none => μ b
theorem Mem.sub_le (μ g : Mem) : (μ.sub g).Le μ := fun b o h => by
  unfold Mem.sub at h
  split at h
  · cases h
  · exact h
theorem Mem.sub_none {μ g : Mem} {b : Nat} (h : (μ.sub g) b ≠ none) : g b = none := by
  unfold Mem.sub at h
  split at h
  · exact absurd rfl h
  · assumption
theorem Mem.sub_of {μ g : Mem} {b : Nat} (h : g b = none) : (μ.sub g) b = μ b := by unfold Mem.sub; rw [h]
theorem Mem.sub_nil (μ : Mem) : μ.sub Mem.nil = μ := rfl
theorem Mem.join_sub {μ g : Mem} (h : Apart μ g) : (μ.join g).sub g = μ := funext fun b => by
  cases hg : g b with
  | some o =>
    have : μ b = none := h.symm b (by simp [hg])
    unfold Mem.sub; rw [hg, this]
  | none =>
    rw [Mem.sub_of hg, Mem.join_get]
    cases μ b with
    | some o => rfl
    | none => exact hg
theorem Mem.le_sub {μ μ' g : Mem} (h : μ.Le μ') (ha : Apart μ g) : μ.Le (μ'.sub g) := fun b o hb => by
  rw [Mem.sub_of (ha b (by simp [hb]))]; exact h b o hb
theorem Mem.le_join (μ g : Mem) : μ.Le (μ.join g) := fun b o h => by rw [Mem.join_get, h]
theorem Mem.le_join_right {μ g : Mem} (h : Apart μ g) : g.Le (μ.join g) := (Parts.join h).right
theorem Holds.join {g : Mem} {w : World} (h : Holds μ w) (k : Holds g w) : Holds (μ.join g) w := fun b o hb => by
  rw [Mem.join_get] at hb
  split at hb
  · rename_i x hx; cases hb; exact h b _ hx
  · exact k b o hb
theorem Holds.le {g : Mem} {w : World} (h : Holds μ w) (k : g.Le μ) : Holds g w := fun b o hb => h b o (k b o hb)
theorem SpecH.weaken {R R' : Value → Mem → Mem → Prop} (h : SpecH P f args μ h0 R) (hk : ∀ v μ' h', μ.Le μ' → Apart μ' h' → R v μ' h' → R' v μ' h') : SpecH P f args μ h0 R' :=
  ⟨h.1, fun w h1 h2 h3 => (h.2 w h1 h2 h3).mono fun _ _ ⟨v, μ', h', e, hr, hS⟩ => ⟨v, μ', h', e, hk v μ' h' hS.le hS.apart hr, hS⟩⟩
theorem Spec.weaken {R R' : Value → Mem → Prop} (h : Spec P f args μ R) (hk : ∀ v μ', μ.Le μ' → R v μ' → R' v μ') : Spec P f args μ R' :=
  SpecH.weaken h fun v μ' _ hl _ hr => hk v μ' hl hr
/-- Owned memory that the call has nothing to do with. -/
theorem SpecH.frame {H k : Mem} {R : Value → Mem → Mem → Prop} (hp : Parts H h0 k) (h : SpecH P f args μ h0 R) : SpecH P f args μ H fun v μ' H' => ∃ h', R v μ' h' ∧ Parts H' h' k := by
  refine ⟨h.1, fun w hm hH ha => ?_⟩
  have ha0 : Apart μ h0 := fun b hb => by
    have := ha b hb
    cases h1 : h0 b with
    | none => rfl
    | some o => rw [hp.left b o h1] at this; cases this
  have hak : Apart μ k := fun b hb => by
    have := ha b hb
    cases h1 : k b with
    | none => rfl
    | some o => rw [hp.right b o h1] at this; cases this
  refine (h.2 w hm (hH.le hp.left) ha0).mono ?_
  rintro e w' ⟨v, μ', h', rfl, hr, hS⟩
  have hkw : Holds k w := hH.le hp.right
  have h0k : ∀ b, k b ≠ none → h0 b = none := hp.apart.symm
  have hk' : Apart h' k := fun b hb => by
    rcases hS.freshH b hb with h | h
    · cases h1 : k b with
      | none => rfl
      | some o => have := hkw.lt (b := b) (by simp [h1]); omega
    · exact hp.apart b h
  refine ⟨v, μ', h'.join k, rfl, ⟨h', hr, Parts.join hk'⟩, ⟨hS.le, hS.mem, hS.own.join fun b o hb => ?_, fun b hb => ?_, fun b hb hb' => ?_, fun b hb => ?_, hS.size, fun b hb hn => hS.keep b hb ?_, hS.os, hS.tape, hS.output⟩⟩
  · rw [hS.keep b (hkw.lt (by simp [hb])) (h0k b (by simp [hb]))]
    exact hkw b o hb
  · rw [Mem.join_get, hS.apart b hb]
    simp only
    by_cases hm0 : μ b = none
    · rcases hS.fresh b hm0 hb with h | h
      · cases h1 : k b with
        | none => rfl
        | some o => have := hkw.lt (b := b) (by simp [h1]); omega
      · exact hp.apart b h
    · exact hak b hm0
  · exact (hS.fresh b hb hb').imp id fun h => by
      cases h1 : h0 b with
      | none => exact absurd h1 h
      | some o => rw [hp.left b o h1]; simp
  · rw [Mem.join_get] at hb
    cases h1 : h' b with
    | some o =>
      exact (hS.freshH b (by simp [h1])).imp id fun h => by
        cases h2 : h0 b with
        | none => exact absurd h2 h
        | some o => rw [hp.left b o h2]; simp
    | none =>
      rw [h1] at hb
      cases h2 : k b with
      | none => exact absurd h2 hb
      | some o => rw [hp.right b o h2]; exact .inr (by simp)
  · cases h1 : h0 b with
    | none => rfl
    | some o => rw [hp.left b o h1] at hn; cases hn
/-- Owned memory is lent to a call that only reads it. -/
theorem SpecH.lend {H : Mem} {R : Value → Mem → Prop} (ha : Apart μ H) (h : Spec P f args (μ.join H) R) : SpecH P f args μ H fun v μ1 H1 => H1 = H ∧ ∃ μ', R v μ' ∧ (μ.join H).Le μ' ∧ μ1 = μ'.sub H := by
  refine ⟨h.1, fun w hm hH _ => (h.2 w (hm.join hH) (holds_nil w) (apart_nil _)).mono ?_⟩
  rintro e w' ⟨v, μ', h', rfl, hr, hS⟩
  refine ⟨v, μ'.sub H, H, rfl, ⟨rfl, μ', hr, hS.le, rfl⟩, ⟨Mem.le_sub ((Mem.le_join μ H).trans hS.le) ha, hS.mem.le (Mem.sub_le _ _), hS.mem.le ((Mem.le_join_right ha).trans hS.le), fun b hb => Mem.sub_none hb, fun b hb hb' => ?_, fun b hb => .inr hb, hS.size, fun b hb _ => hS.keep b hb rfl, hS.os, hS.tape, hS.output⟩⟩
  have h1 := Mem.sub_none hb'
  rw [Mem.sub_of h1] at hb'
  refine .inl ((hS.fresh b ?_ hb').resolve_right (fun h => h rfl))
  rw [Mem.join_get, hb]; exact h1
theorem SpecH.lendGives {H : Mem} {x : Value} (ha : Apart μ H) (h : Spec P f args (μ.join H) fun v μ' => v = x ∧ μ' = μ.join H) : SpecH P f args μ H fun v μ1 H1 => v = x ∧ μ1 = μ ∧ H1 = H :=
  (SpecH.lend ha h).weaken fun v μ1 H1 _ _ ⟨h1, μ', ⟨h2, h3⟩, _, h4⟩ => ⟨h2, by rw [h4, h3, Mem.join_sub ha], h1⟩
/-- Memory that a call has made becomes owned. -/
theorem SpecH.thaw {R : Value → Mem → Mem → Prop} {R' : Value → Mem → Mem → Mem → Prop} (h : SpecH P f args μ h0 R) (G : ∀ v μ1 h1, R v μ1 h1 → ∃ g : Mem, g.Le μ1 ∧ (∀ b, g b ≠ none → μ b = none) ∧ R' v g μ1 h1) :
    SpecH P f args μ h0 fun v μ2 h2 => ∃ g μ1 h1, R' v g μ1 h1 ∧ μ.Le μ1 ∧ Parts h2 h1 g ∧ μ2 = μ1.sub g := by
  refine ⟨h.1, fun w hm hH ha => (h.2 w hm hH ha).mono ?_⟩
  rintro e w' ⟨v, μ1, h1, rfl, hr, hS⟩
  obtain ⟨g, hg, hf, hr'⟩ := G v μ1 h1 hr
  have hap : Apart μ g := fun b hb => by
    cases h2 : g b with
    | none => rfl
    | some o => exact absurd (hf b (by simp [h2])) hb
  have hgn : ∀ b, g b ≠ none → μ1 b ≠ none := fun b hb => by
    cases h2 : g b with
    | none => exact absurd h2 hb
    | some o => rw [hg b o h2]; simp
  have hh : Apart h1 g := fun b hb => by
    cases h2 : g b with
    | none => rfl
    | some o => exact absurd (hS.apart b (hgn b (by simp [h2]))) hb
  refine ⟨v, μ1.sub g, h1.join g, rfl, ⟨g, μ1, h1, hr', hS.le, Parts.join hh, rfl⟩, ⟨Mem.le_sub hS.le hap, hS.mem.le (Mem.sub_le _ _), hS.own.join (hS.mem.le hg), fun b hb => ?_, fun b hb hb' => ?_, fun b hb => ?_, hS.size, hS.keep, hS.os, hS.tape, hS.output⟩⟩
  · have k1 := Mem.sub_none hb
    rw [Mem.sub_of k1] at hb
    rw [Mem.join_get, hS.apart b hb]; exact k1
  · have k1 := Mem.sub_none hb'
    rw [Mem.sub_of k1] at hb'
    exact hS.fresh b hb hb'
  · rw [Mem.join_get] at hb
    cases h2 : h1 b with
    | some o => exact hS.freshH b (by simp [h2])
    | none =>
      rw [h2] at hb
      exact hS.fresh b (hf b hb) (hgn b hb)
end
/-! ### Marks -/
/-- The text of a number, as the marks write it. -/
def digits (k : Nat) : List UInt8 := if h : k = 0 then [] else digits (k / 10) ++ [UInt8.ofNat (48 + k % 10)]
termination_by k
decreasing_by omega
theorem digits_zero : digits 0 = [] := by rw [digits]; simp
theorem digits_pos {k : Nat} (h : k ≠ 0) : digits k = digits (k / 10) ++ [UInt8.ofNat (48 + k % 10)] := by rw [digits]; simp [h]
def mtext (k : Int) : ByteArray := if k ≤ 0 then ⟨#[109, 48]⟩ else ⟨(109 :: digits k.toNat).toArray⟩
mutual
/-- All of data marked, and the next mark. -/
def D.mk : D → Int → D × Int
  | .i _, k => (.i k, k + 1)
  | .b _, k => (.b (decide (k.tmod 3 = 0)), k + 1)
  | .s _, k => (.s (mtext k), k + 1)
  | .st fs, k => (.st (D.mks fs k).1, (D.mks fs k).2)
  | .sl es xs, k => (.sl es (D.mks xs k).1, (D.mks xs k).2)
def D.mks : List D → Int → List D × Int
  | [], k => ([], k)
  | d :: r, k => ((d.mk k).1 :: (D.mks r (d.mk k).2).1, (D.mks r (d.mk k).2).2)
end
mutual
/-- Only what lies in slices is marked. -/
def D.mt : D → Int → D × Int
  | .i n, k => (.i n, k)
  | .b x, k => (.b x, k)
  | .s x, k => (.s x, k)
  | .st fs, k => (.st (D.mts fs k).1, (D.mts fs k).2)
  | .sl es xs, k => (.sl es (D.mks xs k).1, (D.mks xs k).2)
def D.mts : List D → Int → List D × Int
  | [], k => ([], k)
  | d :: r, k => ((d.mt k).1 :: (D.mts r (d.mt k).2).1, (D.mts r (d.mt k).2).2)
end
mutual
/-- How many marks. -/
def D.cnt : D → Nat
  | .i _ => 1
  | .b _ => 1
  | .s _ => 1
  | .st fs => D.cnts fs
  | .sl _ xs => D.cnts xs
def D.cnts : List D → Nat
  | [] => 0
  | d :: r => d.cnt + D.cnts r
end
mutual
theorem D.mk_n : ∀ (d : D) (k : Int), (d.mk k).1.n = d.n
  | .i _, _ => rfl
  | .b _, _ => rfl
  | .s _, _ => rfl
  | .st fs, k => D.mks_n fs k
  | .sl _ _, _ => rfl
theorem D.mks_n : ∀ (l : List D) (k : Int), D.ns (D.mks l k).1 = D.ns l
  | [], _ => rfl
  | d :: r, k => by simp only [D.mks, D.ns, D.mk_n d k, D.mks_n r]
end
mutual
theorem D.mk_cnt : ∀ (d : D) (k : Int), (d.mk k).2 = k + d.cnt
  | .i _, _ => by simp [D.mk, D.cnt]
  | .b _, _ => by simp [D.mk, D.cnt]
  | .s _, _ => by simp [D.mk, D.cnt]
  | .st fs, k => by simp only [D.mk, D.cnt, D.mks_cnt fs k]
  | .sl _ xs, k => by simp only [D.mk, D.cnt, D.mks_cnt xs k]
theorem D.mks_cnt : ∀ (l : List D) (k : Int), (D.mks l k).2 = k + D.cnts l
  | [], _ => by simp [D.mks, D.cnts]
  | d :: r, k => by simp only [D.mks, D.cnts, D.mk_cnt d k, D.mks_cnt r]; omega
end
mutual
theorem D.mt_le : ∀ (d : D) (k : Int), k ≤ (d.mt k).2 ∧ (d.mt k).2 ≤ k + d.cnt
  | .i _, _ => by simp [D.mt, D.cnt]; omega
  | .b _, _ => by simp [D.mt, D.cnt]; omega
  | .s _, _ => by simp [D.mt, D.cnt]; omega
  | .st fs, k => by simp only [D.mt, D.cnt]; exact D.mts_le fs k
  | .sl _ xs, k => by simp only [D.mt, D.cnt, D.mks_cnt xs k]; omega
theorem D.mts_le : ∀ (l : List D) (k : Int), k ≤ (D.mts l k).2 ∧ (D.mts l k).2 ≤ k + D.cnts l
  | [], _ => by simp [D.mts, D.cnts]
  | d :: r, k => by
    have h1 := D.mt_le d k
    have h2 := D.mts_le r (d.mt k).2
    simp only [D.mts, D.cnts]; omega
end
/-- Marked once, it is marked. -/
def D.Marked (d : D) (k : Int) : Prop := (d.mt k).1 = d
mutual
theorem D.mk_mk : ∀ (d : D) (k : Int), ((d.mk k).1.mk k) = d.mk k
  | .i _, _ => rfl
  | .b _, _ => rfl
  | .s _, _ => rfl
  | .st fs, k => by simp only [D.mk, D.mks_mks fs k]
  | .sl _ xs, k => by simp only [D.mk, D.mks_mks xs k]
theorem D.mks_mks : ∀ (l : List D) (k : Int), D.mks (D.mks l k).1 k = D.mks l k
  | [], _ => rfl
  | d :: r, k => by simp only [D.mks, D.mk_mk d k, D.mks_mks r]
end
mutual
theorem D.mt_mt : ∀ (d : D) (k : Int), ((d.mt k).1.mt k) = d.mt k
  | .i _, _ => rfl
  | .b _, _ => rfl
  | .s _, _ => rfl
  | .st fs, k => by simp only [D.mt, D.mts_mts fs k]
  | .sl _ xs, k => by simp only [D.mt, D.mks_mks xs k]
theorem D.mts_mts : ∀ (l : List D) (k : Int), D.mts (D.mts l k).1 k = D.mts l k
  | [], _ => rfl
  | d :: r, k => by simp only [D.mts, D.mt_mt d k, D.mts_mts r]
end
/-! ### Owned data, taken apart -/
theorem OwnS.cons {d : D} {r : List D} {h h1 h2 : Mem} {c1 c2 : List Value} (p : Parts h h1 h2) (k1 : Own d h1 c1) (k2 : OwnS r h2 c2) : OwnS (d :: r) h (c1 ++ c2) := ⟨c1, c2, h1, h2, rfl, p, k1, k2⟩
theorem OwnS.append : ∀ {l r : List D} {h h1 h2 : Mem} {c1 c2 : List Value}, Parts h h1 h2 → OwnS l h1 c1 → OwnS r h2 c2 → OwnS (l ++ r) h (c1 ++ c2)
  | [], r, h, h1, h2, c1, c2, p, k1, k2 => by
    obtain ⟨rfl, rfl⟩ := k1
    have : h = h2 := p.eq (Parts.nil_left h2)
    subst this
    exact k2
  | d :: l, r, h, h1, h2, c1, c2, p, k1, k2 => by
    obtain ⟨a, b, g1, g2, rfl, q, m1, m2⟩ := k1
    obtain ⟨m, q1, q2⟩ := p.symm.assoc q.symm
    refine ⟨a, b ++ c2, g1, m, by simp, q2.symm, m1, OwnS.append q1.symm m2 k2⟩
theorem OwnS.split : ∀ {l r : List D} {h : Mem} {cs : List Value}, OwnS (l ++ r) h cs → ∃ c1 c2 h1 h2, cs = c1 ++ c2 ∧ Parts h h1 h2 ∧ OwnS l h1 c1 ∧ OwnS r h2 c2
  | [], r, h, cs, k => ⟨[], cs, Mem.nil, h, rfl, Parts.nil_left h, ⟨rfl, rfl⟩, k⟩
  | d :: l, r, h, cs, k => by
    obtain ⟨a, b, g1, g2, rfl, q, m1, m2⟩ := k
    obtain ⟨c1, c2, h1, h2, rfl, p, k1, k2⟩ := OwnS.split m2
    obtain ⟨m, q1, q2⟩ := q.assoc p
    exact ⟨a ++ c1, c2, m, h2, by simp, q2, ⟨a, c1, g1, h1, rfl, q1, m1, k1⟩, k2⟩
theorem OwnS.len {l : List D} {h : Mem} {cs : List Value} (k : OwnS l h cs) : cs.length = D.ns l := RepS.len l cs (OwnS.rep l h cs k (Mem.Le.refl _))
theorem Own.len {d : D} {h : Mem} {cs : List Value} (k : Own d h cs) : cs.length = d.n := Rep.len d cs (Own.rep d h cs k (Mem.Le.refl _))
theorem D.ns_eq {es : Nat} : ∀ {l : List D}, (∀ x ∈ l, x.n = es) → D.ns l = l.length * es
  | [], _ => by simp [D.ns]
  | d :: r, h => by
    have ih := D.ns_eq (es := es) (l := r) (fun x hx => h x (by simp [hx]))
    simp only [D.ns, h d (by simp), ih, List.length_cons, Nat.succ_mul]; omega
theorem Mem.set_apart {h k : Mem} {r : Nat} {o : Obj} (h1 : h r = none) (p : Apart (h.set r o) k) : Apart h k ∧ k r = none :=
  ⟨fun b hb => p b (by rw [Mem.set_get]; split; · simp
                       · exact hb), p r (by rw [Mem.set_get, if_pos rfl]; simp)⟩
theorem Mem.set_set (h : Mem) (r : Nat) (o o' : Obj) : (h.set r o).set r o' = h.set r o' := funext fun b => by
  simp only [Mem.set_get]
  split <;> rfl
theorem Parts.set {h g k : Mem} {r : Nat} {o : Obj} (p : Parts h g k) (hr : h r = none) : Parts (h.set r o) g (k.set r o) := fun b => by
  simp only [Mem.set_get]
  by_cases e : b = r
  · subst e
    rw [if_pos rfl, if_pos rfl]
    rcases p b with ⟨h1, h2⟩ | ⟨h1, h2⟩
    · exact .inr ⟨rfl, by rw [← h1]; exact hr⟩
    · exact .inr ⟨rfl, h2⟩
  · rw [if_neg e, if_neg e]; exact p b
/-- A cell of an element is read. -/
theorem set_cell {h : Mem} {r i j : Nat} {pre l post : List Value} {ty : TypeId} {v : Value} (hp : pre.length = i) (hv : l[j]? = some v) : (h.set r (.cells (List.toArray (pre ++ (l ++ post))) ty (0, 0))).cell ⟨r, i + j, none⟩ = some v := by
  subst hp
  have hlt : j < l.length := (List.getElem?_eq_some_iff.1 hv).1
  simp only [Mem.cell, Mem.set_get, if_true]
  simp only [Option.isSome_none, Bool.false_eq_true, if_false, List.getElem?_toArray]
  rw [List.getElem?_append_right (by omega), Nat.add_sub_cancel_left, List.getElem?_append_left hlt]
  exact hv
/-- A cell of an element is written. -/
theorem sto_at {h : Mem} {r j : Nat} {ad : Addr} {pre l post : List Value} {ty : TypeId} {v : Value} {K : Mem → Prop} (ha : ad = ⟨r, pre.length + j, none⟩) (hj : j < l.length) (k : K (h.set r (.cells (List.toArray (pre ++ (l.set j v ++ post))) ty (0, 0)))) :
    stoVC (h.set r (.cells (List.toArray (pre ++ (l ++ post))) ty (0, 0))) ad [v] K := by
  subst ha
  refine sto_intro (pre ++ (l ++ post)) ty (by rw [Mem.set_get, if_pos rfl]) rfl (by simp; omega) ?_
  rw [Mem.set_set]
  have e : (pre ++ (l ++ post)).take (pre.length + j) ++ [v] ++ (pre ++ (l ++ post)).drop (pre.length + j + [v].length) = pre ++ (l.set j v ++ post) := by
    rw [List.take_length_add_append, List.length_singleton, Nat.add_assoc, List.drop_length_add_append, List.take_append_of_le_length (by omega), List.drop_append_of_le_length (by omega), List.set_eq_take_append_cons_drop, if_pos hj]
    simp
  simp only at e ⊢
  rw [e]
  exact k
/-- A whole cell out of owned memory. -/
theorem own_at {μ h : Mem} {r j : Nat} {ad : Addr} {pre l post : List Value} {ty : TypeId} {v : Value} {K : List Value → Prop} (ha : ad = ⟨r, pre.length + j, none⟩) (hv : l[j]? = some v) (k : K [v]) :
    extVC μ (h.set r (.cells (List.toArray (pre ++ (l ++ post))) ty (0, 0))) ad 1 K := by
  subst ha
  refine own_intro [v] rfl (fun i x hx => ?_) k
  match i with
  | 0 =>
    simp only [List.getElem?_cons_zero, Option.some.injEq] at hx
    subst hx
    rw [Addr.add_lit', Nat.add_zero]
    exact set_cell rfl hv
  | i + 1 => simp at hx
theorem D.mks_append : ∀ (a b : List D) (k : Int), D.mks (a ++ b) k = ((D.mks a k).1 ++ (D.mks b (D.mks a k).2).1, (D.mks b (D.mks a k).2).2)
  | [], q, k => rfl
  | d :: a, q, k => by simp only [List.cons_append, D.mks, D.mks_append a q]
theorem D.mks_take {xs : List D} {i : Nat} {x : D} (h : xs[i]? = some x) (k : Int) : D.mks (xs.take (i + 1)) k = ((D.mks (xs.take i) k).1 ++ [(x.mk (D.mks (xs.take i) k).2).1], (x.mk (D.mks (xs.take i) k).2).2) := by
  rw [List.take_add_one, h, Option.toList_some, D.mks_append]; rfl
theorem D.mks_length : ∀ (xs : List D) (k : Int), (D.mks xs k).1.length = xs.length
  | [], _ => rfl
  | d :: r, k => by simp [D.mks, D.mks_length r]
theorem D.mks_get : ∀ {xs : List D} {i : Nat} {x : D} (_ : xs[i]? = some x) (k : Int), (D.mks xs k).1[i]? = some (x.mk (D.mks (xs.take i) k).2).1
  | [], j, x, h, _ => by simp at h
  | d :: r, 0, x, h, k => by simp at h; subst h; simp [D.mks]
  | d :: r, j + 1, x, h, k => by
    have := D.mks_get (xs := r) (i := j) (by simpa using h) (d.mk k).2
    simpa [D.mks] using this
theorem D.cnts_append : ∀ (a b : List D), D.cnts (a ++ b) = D.cnts a + D.cnts b
  | [], q => by simp [D.cnts]
  | d :: a, q => by simp [D.cnts, D.cnts_append a q]; omega
theorem D.cnts_take (xs : List D) (i : Nat) : D.cnts (xs.take i) ≤ D.cnts xs := by
  have := D.cnts_append (xs.take i) (xs.drop i)
  rw [List.take_append_drop] at this
  omega
theorem D.mks_size {es : Nat} : ∀ {xs : List D} (k : Int), (∀ x ∈ xs, x.n = es) → ∀ y ∈ (D.mks xs k).1, y.n = es
  | [], _, _, y, h => by simp [D.mks] at h
  | d :: r, k, hn, y, h => by
    simp only [D.mks, List.mem_cons] at h
    rcases h with rfl | h
    · rw [D.mk_n]; exact hn d (by simp)
    · exact D.mks_size _ (fun x hx => hn x (by simp [hx])) y h
end Go.Vx
