/- Texts of the proof, part 5: Ua Sl Wk Sm Sn0 Sn. -/
import Derived.Test.YtepgghefbcklhaaM4
/- What the texts on types of data share. -/
namespace Go.Vx
open Go.Proofs Classical
abbrev Tm.P := Option Addr × Nat
abbrev Bd.P := Option Addr × Nat
section
variable {μ : Mem}
theorem Tm.invR {t : Tm} {cs : List Value} (h : Rep μ t.d cs) : ∃ p : Tm.P, cs = t.cs p ∧ RepV μ t.d (.agg (t.cs p).toArray) := by
  obtain ⟨p, rfl⟩ := Tm.invC h
  exact ⟨p, rfl, Tm.rep h⟩
theorem Bd.invR {b : Bd} {cs : List Value} (h : Rep μ b.d cs) : ∃ p : Bd.P, cs = b.cs p ∧ RepV μ b.d (.agg (b.cs p).toArray) := by
  obtain ⟨p, rfl, _⟩ := Bd.invS h
  exact ⟨p, rfl, _, rfl, h⟩
theorem Tm.ownR {t : Tm} {h : Mem} {cs : List Value} (k : Own t.d h cs) : ∃ p : Tm.P, cs = t.cs p ∧ OwnV (.sl 4 (t.args.map Tm.d)) h (.slice p.1 t.args.length p.2) := by
  obtain ⟨v, rfl, hv⟩ := Tm.own k
  obtain ⟨b, c, rfl⟩ := OwnV.slice hv
  rw [List.length_map] at hv ⊢
  exact ⟨(b, c), rfl, hv⟩
theorem Bd.ownR {t : Bd} {h : Mem} {cs : List Value} (k : Own t.d h cs) : ∃ p : Bd.P, cs = t.cs p ∧ OwnV (.sl 4 (t.to.args.map Tm.d)) h (.slice p.1 t.to.args.length p.2) := by
  obtain ⟨v, rfl, hv⟩ := Bd.own k
  obtain ⟨b, c, rfl⟩ := OwnV.slice hv
  rw [List.length_map] at hv ⊢
  exact ⟨(b, c), rfl, hv⟩
theorem Bd.d_eq (b : Bd) : b.d = .st [.i b.var, b.to.d] := rfl
theorem one_of {α : Type} {l : List α} (h : l.length = 1) : ∃ v, l = [v] := List.length_eq_one_iff.1 h
/-- Fresh memory of the parts of a struct. -/
def FreshS (μ μ' : Mem) (ds : List D) (cs : List Value) : Prop := ∃ g : Mem, OwnS ds g cs ∧ g.Le μ' ∧ ∀ b, g b ≠ none → μ b = none
variable {μ1 μ' : Mem}
theorem FreshS.nil : FreshS μ μ' [] [] := ⟨Mem.nil, ⟨rfl, rfl⟩, (fun _ _ h => nomatch h), fun _ h => absurd rfl h⟩
theorem FreshS.int {n : Int} {ds : List D} {cs : List Value} (k : FreshS μ μ' ds cs) : FreshS μ μ' (.i n :: ds) (.int .i64 n :: cs) := by
  obtain ⟨g, a, b, c⟩ := k
  exact ⟨g, OwnS.int a, b, c⟩
theorem FreshS.bool {n : Bool} {ds : List D} {cs : List Value} (k : FreshS μ μ' ds cs) : FreshS μ μ' (.b n :: ds) (.bool n :: cs) := by
  obtain ⟨g, a, b, c⟩ := k
  exact ⟨g, OwnS.bool a, b, c⟩
theorem FreshS.str {n : ByteArray} {ds : List D} {cs : List Value} (k : FreshS μ μ' ds cs) : FreshS μ μ' (.s n :: ds) (.string n :: cs) := by
  obtain ⟨g, a, b, c⟩ := k
  exact ⟨g, OwnS.str a, b, c⟩
theorem FreshS.cons {d : D} {v : Value} {ds : List D} {cs : List Value} (k1 : Fresh μ μ1 d v) (h1 : μ.Le μ1) (h2 : μ1.Le μ') (k : FreshS μ1 μ' ds cs) : FreshS μ μ' (d :: ds) (vcells v ++ cs) := by
  obtain ⟨g1, a1, b1, c1⟩ := k1
  obtain ⟨g, a, b, c⟩ := k
  refine ⟨g1.join g, OwnS.cons (Parts.join (fresh_apart b1 c)) a1.cells a, join_le (b1.trans h2) b, fun x hx => ?_⟩
  rcases join_ne hx with h | h
  · exact c1 x h
  · have h3 := c x h
    cases h0 : μ x with
    | none => rfl
    | some o => rw [h1 x o h0] at h3; cases h3
theorem FreshS.mono {μ0 : Mem} {ds : List D} {cs : List Value} (k : FreshS μ1 μ' ds cs) (h : μ0.Le μ1) : FreshS μ0 μ' ds cs := by
  obtain ⟨g, a, b, c⟩ := k
  refine ⟨g, a, b, fun x hx => ?_⟩
  have h3 := c x hx
  cases h0 : μ0 x with
  | none => rfl
  | some o => rw [h x o h0] at h3; cases h3
theorem FreshS.st {ds : List D} {cs : List Value} (k : FreshS μ μ' ds cs) : Fresh μ μ' (.st ds) (.agg cs.toArray) := by
  obtain ⟨g, a, b, c⟩ := k
  exact ⟨g, ⟨cs, rfl, a⟩, b, c⟩
/-- One part of an element's memory is lent, and comes back. -/
theorem mark_step {hh M G g G' : Mem} {r : Nat} (hr : hh r = none) (p : Parts hh M G) (q : Parts G g G') :
    ∃ mm : Mem, ∀ o, Parts (hh.set r o) g (mm.set r o) ∧ ∀ h' H', Parts H' h' (mm.set r o) → ∃ M' hh' : Mem, H' = hh'.set r o ∧ hh' r = none ∧ h' r = none ∧ Apart h' M ∧ Parts M' h' M ∧ Parts hh' M' G' := by
  obtain ⟨mm, p1, p2⟩ := p.assoc q.symm
  have hm : mm r = none := by
    cases h : mm r with
    | none => rfl
    | some x => have := p2.left r x h; rw [hr] at this; cases this
  refine ⟨mm, fun o => ⟨(p2.symm.set hr), fun h' H' pH => ?_⟩⟩
  obtain ⟨a1, a2, rfl⟩ := back_of hm pH
  obtain ⟨M', m1, m2⟩ := (Parts.join a1).assoc p1
  refine ⟨M', h'.join mm, rfl, by rw [Mem.join_get, a2]; exact hm, a2, ?_, m1, m2⟩
  intro b hb
  cases h : M b with
  | none => rfl
  | some x => have := a1 b hb; rw [p1.left b x h] at this; cases this
theorem Mem.nil_join (g : Mem) : Mem.nil.join g = g := rfl
theorem Parts.none_of {h g k : Mem} {r : Nat} (p : Parts h g k) (h1 : g r = none) (h2 : k r = none) : h r = none := by
  rcases p r with ⟨e, _⟩ | ⟨e, _⟩
  · rw [e]; exact h1
  · rw [e]; exact h2
end
end Go.Vx

/- Contracts: substitutions composed: the program's side. -/
namespace Go.Vx
open Go.Proofs Classical
open Go.Sort
/-! ### Plain -/
noncomputable def compFrom (bt : List B) : List B → List B → Option (List B)
  | [], acc => some acc
  | b :: r, acc => match fit (b.to.subst (sub bt)) with
    | none => none
    | some x => compFrom bt r (if x = .var b.var then acc else acc ++ [⟨b.var, x⟩])
noncomputable def restB (bs bt : List B) : List B := bt.filter fun b => decide (sub bs b.var = none)
noncomputable def sortB (l : List B) : List B := l.mergeSort fun a b => decide (a.var ≤ b.var)
noncomputable def compL (bs bt : List B) : Option (List B) := match compFrom bt bs [] with
  | none => none
  | some l => if Subst (sortB (l ++ restB bs bt)) then some (sortB (l ++ restB bs bt)) else none
/-- Two substitutions composed. -/
noncomputable def comp (l m : List Bd) : Option (List B) := if substOk l ∧ substOk m then compL (l.map Bd.b) (m.map Bd.b) else none
def optB (P : List B → Value → Prop) (o : Option (List B)) (v : Value) : Prop := match o with
  | some l => ∃ tv, v = .tuple #[tv, .bool true] ∧ P l tv
  | none => v = .tuple #[.slice none 0 0, .bool false]
def AscB (l : List B) : Prop := l.Pairwise fun a b => a.var < b.var
theorem Srt.asc {bs : List B} (h : Srt bs) : AscB bs := by
  rw [AscB, List.pairwise_iff_getElem]
  intro i j hi hj hij
  exact h i j _ _ hij (by simp) (by simp)
theorem AscB.srt {bs : List B} (h : AscB bs) : Srt bs := fun i j b c hij hb hc => by
  rw [AscB, List.pairwise_iff_getElem] at h
  obtain ⟨hi, rfl⟩ := List.getElem?_eq_some_iff.1 hb
  obtain ⟨hj, rfl⟩ := List.getElem?_eq_some_iff.1 hc
  exact h i j hi hj hij
theorem AscB.uniq {a b : B} {l : List B} (h : AscB l) (ha : a ∈ l) (hb : b ∈ l) (e : a.var = b.var) : a = b := by
  obtain ⟨i, hi⟩ := List.mem_iff_getElem?.1 ha
  obtain ⟨j, hj⟩ := List.mem_iff_getElem?.1 hb
  rcases Nat.lt_trichotomy i j with h1 | h1 | h1
  · have := h.srt i j _ _ h1 hi hj; omega
  · subst h1; rw [hi] at hj; cases hj; rfl
  · have := h.srt j i _ _ h1 hj hi; omega
theorem sortB_uniq {s l : List B} (hp : s.Perm l) (hs : AscB s) : s = sortB l := by
  have h2 : (sortB l).Perm s := (List.mergeSort_perm l _).trans hp.symm
  refine List.Perm.eq_of_pairwise (le := fun a b : B => a.var ≤ b.var) (fun a b ha hb h3 h4 => ?_) (hs.imp fun h => by omega) ?_ h2.symm
  · exact hs.uniq ha (h2.mem_iff.1 hb) (by omega)
  · have := List.pairwise_mergeSort (le := fun a b : B => decide (a.var ≤ b.var)) (fun a b c h1 h2 => by simp only [decide_eq_true_eq] at *; omega) (fun a b => by simp only [Bool.or_eq_true, decide_eq_true_eq]; omega) l
    exact this.imp fun h => by simpa using h
theorem AscB.nodup {l : List B} (h : AscB l) : (l.map B.var).Nodup := by
  rw [List.Nodup, List.pairwise_map]
  exact h.imp fun h => by omega
theorem AscB.of_le {l : List B} (h : l.Pairwise fun a b => a.var ≤ b.var) (hn : (l.map B.var).Nodup) : AscB l := by
  rw [List.Nodup, List.pairwise_map] at hn
  exact h.and hn |>.imp fun ⟨h1, h2⟩ => by omega
theorem comp_nodup {bs bt acc : List B} (hs : AscB bs) (ht : AscB bt) (hsub : (acc.map B.var).Sublist (bs.map B.var)) : ((acc ++ restB bs bt).map B.var).Nodup := by
  rw [List.map_append, List.nodup_append]
  refine ⟨hs.nodup.sublist hsub, ht.nodup.sublist (List.filter_sublist.map _), fun a ha b hb e => ?_⟩
  subst e
  obtain ⟨x, hx, rfl⟩ := List.mem_map.1 (hsub.subset ha)
  obtain ⟨y, hy, e⟩ := List.mem_map.1 hb
  have h1 := (List.mem_filter.1 hy).2
  rw [e] at h1
  exact sub_mem hx (of_decide_eq_true h1)
theorem T.isVar {x : T} {n : Int} : (x.tm.kind = 1 ∧ x.tm.num = n) ↔ x = .var n := by
  cases x <;> simp [T.tm, Tm.kind, Tm.num]
section
variable {μ : Mem}
theorem apartB {h : Mem} {r r' cap es : Nat} {ty : TypeId} {ys : List Value} (hb : RowO h r cap ty es ys) (hap : Apart μ h) (hor : r' = r ∨ (h r' = none ∧ μ r' = none)) : μ r' = none := by
  rcases hor with rfl | ⟨_, h2⟩
  · obtain ⟨cs, h1, _⟩ := hb
    cases e : μ r' with
    | none => rfl
    | some o => have := hap r' (by simp [e]); rw [h1] at this; cases this
  · exact h2
theorem Fresh.bd {μ' : Mem} {n : Int} {x : T} {q : Option Addr × Nat} (h : Fresh μ μ' x.tm.d (.agg (x.tm.cs q).toArray)) (hle : μ.Le μ') : Fresh μ μ' (B.bd ⟨n, x⟩).d (.agg (Value.int .i64 n :: x.tm.cs q).toArray) := by
  have := (FreshS.int (n := n) (FreshS.cons h hle (Mem.Le.refl _) FreshS.nil)).st
  have e : vcells (.agg (x.tm.cs q).toArray) ++ [] = x.tm.cs q := by simp [vcells]
  rw [e] at this
  exact this
set_option maxHeartbeats 4000000 in
theorem impl_ComposeSubst_spec {l m : List Bd} {base base2 : Option Addr} {cap cap2 : Nat} (hsl : Sl μ 5 base l.length (l.map Bd.d)) (hsm : Sl μ 5 base2 m.length (m.map Bd.d)) :
    Spec Try.prog 25 [.slice base l.length cap, .slice base2 m.length cap2] μ fun v μ' => optB (fun y tv => Fresh μ μ' (.sl 5 ((y.map B.bd).map Bd.d)) tv) (comp l m) v := by
  refine Spec.mkO [21] Try.func25 (by kernel_rfl) ?_
  refine call_gives (impl_SubstOk_spec hsl) ?_
  refine ifnd (fun h => ret_plain (by rw [comp, if_neg fun k => h k.1]; rfl)) (fun h1 => ?_)
  refine call_gives (impl_SubstOk_spec hsm) ?_
  refine ifnd (fun h => ret_plain (by rw [comp, if_neg fun k => h k.2]; rfl)) (fun h2 => ?_)
  have hcmp : comp l m = compL (l.map Bd.b) (m.map Bd.b) := by rw [comp, if_pos ⟨h1, h2⟩]
  rw [hcmp]
  obtain ⟨bs, rfl, hbs⟩ := h1.subst
  obtain ⟨bt, rfl, hbt⟩ := h2.subst
  clear hcmp
  rw [B.map_b, B.map_b]
  simp only [List.length_map] at hsl hsm ⊢
  have hlen := hbs.vals.len
  have hlen2 := hbt.vals.len
  generalize hout : compL bs bt = O
  rw [compL] at hout
  generalize hc : compFrom bt bs [] = R at hout
  intro r21 hm21 ho21
  refine loop_intro (fun p : Nat × Nat × Nat × Nat × List Value × List B × Mem × Mem => p.1 ≤ bs.length ∧ p.2.2.2.2.1.length = p.2.2.2.1 ∧ RowO p.2.2.2.2.2.2.2 p.2.1 p.2.2.1 109 5 p.2.2.2.2.1 ∧ Apart p.2.2.2.2.2.2.1 p.2.2.2.2.2.2.2 ∧ μ.Le p.2.2.2.2.2.2.1 ∧ Grown 5 μ p.2.2.2.2.2.2.1 ((p.2.2.2.2.2.1.map B.bd).map Bd.d) p.2.2.2.2.1 ∧ compFrom bt (bs.drop p.1) p.2.2.2.2.2.1 = R ∧ (p.2.2.2.2.2.1.map B.var).Sublist ((bs.take p.1).map B.var))
    (fun (i, b, c, m, ys, acc, μ', h) => ⟨[(0, .val (.slice base bs.length cap)), (1, .val (.slice base2 bt.length cap2)), (6, .val (.slice (some ⟨b, 0, none⟩) m c)), (22, .val (.slice base bs.length cap)), (23, .val (.int .i64 bs.length)), (24, .val (.int .i64 i))], [], 0, μ', h⟩) (fun p => bs.length - p.1)
    (0, r21, 0, 0, [], [], μ, _) ⟨by simp, rfl, ⟨[], Mem.set_at _ _ _, by simp, by simp, by simp, rfl, rfl⟩, (apart_nil μ).set hm21, Mem.Le.refl _, Grown.nil _ _ _, hc, by simp⟩ (fun (_, _, _, _, _, _, _, _) => ⟨rfl, rfl⟩) ⟨⟨rfl, rfl, rfl, rfl, rfl, rfl, trivial⟩, trivial, rfl, rfl⟩ ?_
  clear hc hm21 ho21
  rintro ⟨i, b, c, m, ys, acc, μ', h⟩ ⟨hi, hm, hb, hap, hle, hgr, hJ, hsub⟩
  dsimp only at hi hm hb hap hle hgr hJ hsub
  have hyl := hgr.len
  have hal := hsub.length_le
  simp only [List.length_map, List.length_take] at hyl hal
  refine ifd (fun hlt => ?_) (fun hlt => ?_)
  · obtain ⟨x, hx⟩ := at_some (l := bs) (i := i) (by omega)
    obtain ⟨ad, p, hel, hto⟩ := B.elem (hsl.mono hle) hx
    rw [drop_at hx, compFrom] at hJ
    have hsub1 : ∀ z : T, ((acc ++ [B.mk x.var z]).map B.var).Sublist ((bs.take (i + 1)).map B.var) := fun z => by
      rw [List.take_add_one, hx, Option.toList_some, List.map_append, List.map_append]
      exact hsub.append (List.Sublist.refl _)
    have hsub2 : (acc.map B.var).Sublist ((bs.take (i + 1)).map B.var) := by
      rw [List.take_add_one, List.map_append]
      exact hsub.trans (List.sublist_append_left _ _)
    refine elem_intro hel ?_
    intro r8
    refine call_data hap (put_spec x.to hbt.vals.srt (by omega) hbt.vals.tok (hsm.mono hle) hto) fun v1 μ1 hle1 hap1 hR => ?_
    cases hf : fit (x.to.subst (sub bt)) with
    | none =>
      rw [hf] at hR hJ
      obtain rfl := hR
      obtain rfl : none = R := hJ
      obtain rfl : none = O := hout
      intro r9
      refine if_intro (fun _ => ?_) (fun h => nomatch h)
      exact ret_own _ Mem.nil (Parts.nil_right _) rfl
    | some y =>
      rw [hf] at hR hJ
      dsimp only at hJ
      obtain ⟨tv, rfl, htv⟩ := hR
      obtain ⟨q, rfl⟩ := Tm.invV htv.rep
      intro r9
      refine if_intro (fun h => nomatch h) (fun _ => ?_)
      refine ifnd (fun hk => ?_) (fun hk => ?_)
      · rw [if_neg fun e => hk ((T.isVar (n := x.var)).2 e).1] at hJ
        intro r52
        refine app_intro ys hm hb ?_ ?_ fun b' c' o hrow hor => ?_
        · show (m + 1) * 64 ≤ _; omega
        · exact Nat.le_trans (m := 100000000) (show m + 1 ≤ _ by omega) (by decide)
        refine num64 (by omega) (by omega) ⟨(i + 1, b', c', m + 1, _, acc ++ [⟨x.var, y⟩], μ1, _), ⟨by dsimp only; omega, by dsimp only; rw [List.length_append, hm]; rfl, hrow, hap1.set (apartB hb hap1 hor), hle.trans hle1, ?_, hJ, hsub1 _⟩, by dsimp only; omega, ⟨⟨rfl, rfl, rfl, rfl, rfl, rfl, trivial⟩, trivial, rfl, rfl⟩⟩
        dsimp only
        rw [List.map_append, List.map_append]
        exact hgr.snoc hle (Fresh.bd htv hle1) hle1 (Bd.d_n _)
      refine ifnd (fun hk2 => ?_) (fun hk2 => ?_)
      · rw [if_neg fun e => hk2 ((T.isVar (n := x.var)).2 e).2] at hJ
        intro r52
        refine app_intro ys hm hb ?_ ?_ fun b' c' o hrow hor => ?_
        · show (m + 1) * 64 ≤ _; omega
        · exact Nat.le_trans (m := 100000000) (show m + 1 ≤ _ by omega) (by decide)
        refine num64 (by omega) (by omega) ⟨(i + 1, b', c', m + 1, _, acc ++ [⟨x.var, y⟩], μ1, _), ⟨by dsimp only; omega, by dsimp only; rw [List.length_append, hm]; rfl, hrow, hap1.set (apartB hb hap1 hor), hle.trans hle1, ?_, hJ, hsub1 _⟩, by dsimp only; omega, ⟨⟨rfl, rfl, rfl, rfl, rfl, rfl, trivial⟩, trivial, rfl, rfl⟩⟩
        dsimp only
        rw [List.map_append, List.map_append]
        exact hgr.snoc hle (Fresh.bd htv hle1) hle1 (Bd.d_n _)
      · rw [if_pos ((T.isVar (n := x.var)).1 ⟨hk, hk2⟩)] at hJ
        refine num64 (by omega) (by omega) ⟨(i + 1, b, c, m, ys, acc, μ1, h), ⟨by dsimp only; omega, hm, hb, hap1, hle.trans hle1, hgr.mono hle1, hJ, hsub2⟩, by dsimp only; omega, ⟨⟨rfl, rfl, rfl, rfl, rfl, rfl, trivial⟩, trivial, rfl, rfl⟩⟩
  obtain rfl : i = bs.length := by omega
  rw [List.drop_length, compFrom] at hJ
  rw [List.take_length] at hsub
  subst hJ
  dsimp only at hout
  have hnd := comp_nodup (bt := bt) hbs.vals.srt.asc hbt.vals.srt.asc hsub
  have hal0 : acc.length ≤ 400 := by omega
  clear hsub hal hi hlt
  refine loop_intro (fun p : Nat × Nat × Nat × Nat × List Value × Mem × Mem => p.1 ≤ bt.length ∧ p.2.2.2.2.1.length = p.2.2.2.1 ∧ RowO p.2.2.2.2.2.2 p.2.1 p.2.2.1 109 5 p.2.2.2.2.1 ∧ Apart p.2.2.2.2.2.1 p.2.2.2.2.2.2 ∧ μ.Le p.2.2.2.2.2.1 ∧ Grown 5 μ p.2.2.2.2.2.1 (((acc ++ restB bs (bt.take p.1)).map B.bd).map Bd.d) p.2.2.2.2.1)
    (fun (i, b, c, m, ys, μ', h) => ⟨[(0, .val (.slice base bs.length cap)), (6, .val (.slice (some ⟨b, 0, none⟩) m c)), (55, .val (.slice base2 bt.length cap2)), (56, .val (.int .i64 bt.length)), (57, .val (.int .i64 i))], [], 0, μ', h⟩) (fun p => bt.length - p.1)
    (0, b, c, m, ys, μ', h) ⟨by simp, hm, hb, hap, hle, by simpa [restB] using hgr⟩ (fun (_, _, _, _, _, _, _) => ⟨rfl, rfl⟩) ⟨⟨rfl, rfl, rfl, rfl, rfl, trivial⟩, trivial, rfl, rfl⟩ ?_
  clear hgr hle hb hyl hap hm
  rintro ⟨i, b, c, m, ys, μ', h⟩ ⟨hi, hm, hb, hap, hle, hgr⟩
  dsimp only at hi hm hb hap hle hgr
  have hyl := hgr.len
  have hfl : (restB bs (bt.take i)).length ≤ i := Nat.le_trans (List.length_filter_le _ _) (by simp; omega)
  simp only [List.length_map, List.length_append] at hyl
  refine ifd (fun hlt => ?_) (fun hlt => ?_)
  · obtain ⟨x, hx⟩ := at_some (l := bt) (i := i) (by omega)
    obtain ⟨ad, p, hel, hto⟩ := B.elem (hsm.mono hle) hx
    have hrest : restB bs (bt.take (i + 1)) = restB bs (bt.take i) ++ if sub bs x.var = none then [x] else [] := by
      rw [restB, List.take_add_one, hx, Option.toList_some, List.filter_append, restB]
      congr 1
      by_cases h : sub bs x.var = none
      · simp [h]
      · simp [h]
    refine elem_intro hel ?_
    intro r12
    refine call_data hap (find_spec hbs.vals.srt (by omega) (hsl.mono hle)) fun v1 μ1 hle1 hap1 hR => ?_
    obtain ⟨hF, e5⟩ := hR
    obtain rfl := e5.symm
    rcases hF with ⟨k, z, rfl, hz, hzv⟩ | ⟨rfl, hno⟩
    · refine ifd (fun h => by omega) (fun _ => ?_)
      have hs : sub bs x.var = some z.to := sub_some hbs.vals.srt hz hzv
      rw [if_neg (by rw [hs]; simp), List.append_nil] at hrest
      refine num64 (by omega) (by omega) ⟨(i + 1, b, c, m, ys, μ', h), ⟨by dsimp only; omega, hm, hb, hap, hle, by dsimp only; rw [hrest]; exact hgr⟩, by dsimp only; omega, ⟨⟨rfl, rfl, rfl, rfl, rfl, trivial⟩, trivial, rfl, rfl⟩⟩
    · refine ifd (fun _ => ?_) (fun h => absurd (by decide) h)
      have hno' : sub bs x.var = none := sub_none hno
      rw [if_pos hno'] at hrest
      refine call_data hap (copyTerm_spec x.to hto) fun v1 μ1 hle1 hap1 hR => ?_
      obtain ⟨q, rfl⟩ := Tm.invV hR.rep
      intro r73
      refine app_intro ys hm hb ?_ ?_ fun b' c' o hrow hor => ?_
      · show (m + 1) * 64 ≤ _; omega
      · exact Nat.le_trans (m := 100000000) (show m + 1 ≤ _ by omega) (by decide)
      refine num64 (by omega) (by omega) ⟨(i + 1, b', c', m + 1, _, μ1, _), ⟨by dsimp only; omega, by dsimp only; rw [List.length_append, hm]; rfl, hrow, hap1.set (apartB hb hap1 hor), hle.trans hle1, ?_⟩, by dsimp only; omega, ⟨⟨rfl, rfl, rfl, rfl, rfl, trivial⟩, trivial, rfl, rfl⟩⟩
      dsimp only
      rw [hrest, ← List.append_assoc, List.map_append, List.map_append]
      exact hgr.snoc hle (Fresh.bd hR hle1) hle1 (Bd.d_n _)
  obtain rfl : i = bt.length := by omega
  rw [List.take_length] at hgr hyl hfl
  generalize hL : acc ++ restB bs bt = L at *
  have hLl : L.length ≤ 800 := by rw [← hL, List.length_append]; omega
  subst hm
  have hyl' : L.length = ys.length := by rw [← hL, List.length_append]; exact hyl
  obtain ⟨cs, hcell, hlen0, hcap, hone, hcs, htake⟩ := hb
  obtain ⟨rest, rfl⟩ : ∃ rest, cs = ys.flatMap vcells ++ rest := by
    refine ⟨cs.drop (ys.length * 5), ?_⟩
    conv => lhs; rw [← List.take_append_drop (ys.length * 5) cs, htake]
  obtain ⟨h0, hh0, hsplit⟩ : ∃ h0 : Mem, h0 b = none ∧ h = RowV h0 b 109 rest ys.toArray := by
    refine ⟨fun k => if k = b then none else h k, if_pos rfl, funext fun k => ?_⟩
    rw [RowV, Mem.set_get]
    by_cases e : k = b
    · subst e; rw [if_pos rfl, hcell]
    · rw [if_neg e, if_neg e]
  subst hsplit
  obtain ⟨g, hown, hgle, hgf⟩ := hgr
  rw [List.map_map] at hown
  obtain ⟨hP, e1, e2⟩ := Prs.zip (f := fun b : B => b.bd.d) hown hone
  have ea : ys.toArray = (L.zip ys).toArray.map Prod.snd := by simp [e2]
  have hzn : (L.zip ys).toArray.size = ys.length := by simp; omega
  have hspec := sortBindings_spec (μ := μ') (h0 := h0) (r := b) (ty := 109) (rest := rest) (n := ys.length) (cap := c) (d0 := (L.zip ys).toArray) hh0 hP hzn (by omega)
  rw [← ea] at hspec
  refine call_own hspec fun v μ2 h2 hle2 hap2 hR => ?_
  obtain ⟨rfl, d', p1, p2, rfl⟩ := hR
  have hds : d'.size = ys.length := by
    have := p1.length_eq
    rw [Array.length_toList, Array.length_toList] at this
    omega
  obtain ⟨S, hS⟩ : ∃ S, S = d'.toList.map Prod.fst := ⟨_, rfl⟩
  obtain ⟨vs, hvs⟩ : ∃ vs, vs = d'.toList.map Prod.snd := ⟨_, rfl⟩
  have hSp : S.Perm L := by rw [hS, ← e1]; exact p1.map _
  have hSa : AscB S := by
    refine AscB.of_le ?_ ((hSp.map _).nodup_iff.2 hnd)
    rw [List.pairwise_iff_getElem]
    intro a b' ha hb' hab
    subst hS
    have ha : a < d'.size := by simpa using ha
    have hb' : b' < d'.size := by simpa using hb'
    have := p2 a b' (Nat.zero_le _) hab (by omega)
    rw [getElem!_pos d' a (by omega), getElem!_pos d' b' (by omega)] at this
    simp only [ltB, decide_eq_false_iff_not] at this
    simp only [List.getElem_map, Array.getElem_toList]
    exact Int.not_lt.1 this
  have hSs : S = sortB L := sortB_uniq hSp hSa
  have hP2 := hP.perm p1.symm
  have hown2 : OwnRows 5 ((S.map B.bd).map Bd.d) vs g := by
    have := hP2.own
    rw [hS, hvs, List.map_map, List.map_map]
    exact this
  have hvl : vs.length = ys.length := by rw [hvs]; simpa using hds
  have hSl : S.length = ys.length := by rw [hS]; simpa using hds
  have hb2 : μ2 b = none := by
    cases e : μ2 b with
    | none => rfl
    | some o => have := hap2 b (by simp [e]); rw [RowV, Mem.set_at] at this; cases this
  have hev : (d'.map Prod.snd).toList = vs := by rw [hvs]; simp
  have F := Fresh.ofRow (μ := μ) (μ1 := μ2) (μ' := μ2.join (RowV h0 b 109 rest (d'.map Prod.snd))) (b := some b) (cap := c) hown2 (hgle.trans hle2) hgf (hle.trans hle2) (Mem.le_join _ _) (fun r e => by cases e; exact hb2)
    ⟨by omega, fun x hx => by
      rw [hvs] at hx
      obtain ⟨p, hp, rfl⟩ := List.mem_map.1 hx
      exact hP2.size p hp, _, _, by rw [Mem.join_get, hb2, RowV, Mem.set_at], by
        have h5 : (ys.flatMap vcells).length = ys.length * 5 := flat_len _ fun y hy => (hone y hy).1
        have h6 : (vs.flatMap vcells).length = vs.length * 5 := flat_len _ fun y hy => by
          rw [hvs] at hy
          obtain ⟨p, hp, rfl⟩ := List.mem_map.1 hy
          exact (hP2.size p hp).1
        rw [List.length_append] at hcs
        rw [hev, List.size_toArray, List.length_append]
        omega, by
        have h6 : (vs.flatMap vcells).length = vs.length * 5 := flat_len _ fun y hy => by
          rw [hvs] at hy
          obtain ⟨p, hp, rfl⟩ := List.mem_map.1 hy
          exact (hP2.size p hp).1
        rw [hev, ← h6, List.take_left]⟩ (Nat.le_trans (m := 100000000) (by omega) (by decide))
  rw [hvl] at F
  have hrep := F.rep
  obtain ⟨b9, c9, e9, hslS⟩ := Rep.sl hrep
  have hslS' : Sl (μ2.join (RowV h0 b 109 rest (d'.map Prod.snd))) 5 (some ⟨b, 0, none⟩) (S.map B.bd).length ((S.map B.bd).map Bd.d) := by
    simp only [Option.map_some, Value.slice.injEq] at e9
    obtain ⟨rfl, e10, rfl⟩ := e9
    simpa using hslS
  have hok := impl_SubstOk_spec (cap := c) hslS'
  have hSbl : (S.map B.bd).length = ys.length := by simpa using hSl
  rw [hSbl] at hok
  refine call_read hap2 hok ?_
  subst hout
  rw [← hSs]
  refine ifnd (fun h => ?_) (fun h => ?_)
  · refine ret_own _ Mem.nil (Parts.nil_right _) ?_
    rw [if_neg fun k => h ((substOk_iff S).2 k)]
    rfl
  · refine ret_own _ Mem.nil (Parts.nil_right _) ?_
    rw [if_pos ((substOk_iff S).1 h)]
    exact ⟨_, rfl, F⟩
end
end Go.Vx

/- Plain: terms that are well-formed fit the machine. -/
namespace Go.Vx
open Go.Proofs Classical
theorem var_wd {n : Int} (h : 0 ≤ n ∧ n ≤ 100000) : (T.var n).tm.d.wd := by
  rw [T.d_eq]
  exact ⟨⟨show (-9223372036854775808 : Int) ≤ 1 by decide, show (1 : Int) ≤ 9223372036854775807 by decide⟩, ⟨show _ ≤ n by omega, show n ≤ _ by omega⟩, Nat.zero_le _, trivial, trivial⟩
theorem T.good_subst {f : Int → Option T} (hf : ∀ n y, f n = some y → y.good) : ∀ {x : T}, x.good → (x.subst f).good
  | .var n, h => by
    simp only [T.subst]
    cases e : f n with
    | none => exact h
    | some y => exact hf n y e
  | .pair a b, h => ⟨T.good_subst hf h.1, T.good_subst hf h.2⟩
  | .nil, h => h
  | .sym _, h => h
  | .num _, h => h
theorem T.good_wd : ∀ {x : T}, x.good → x.tm.d.wd
  | .nil, _ => by
    rw [T.d_eq]
    exact ⟨⟨show (-9223372036854775808 : Int) ≤ 0 by decide, show (0 : Int) ≤ 9223372036854775807 by decide⟩, ⟨show (-9223372036854775808 : Int) ≤ 0 by decide, show (0 : Int) ≤ 9223372036854775807 by decide⟩, Nat.zero_le _, trivial, trivial⟩
  | .var n, h => var_wd h
  | .sym s, h => by
    rw [T.d_eq]
    exact ⟨⟨show (-9223372036854775808 : Int) ≤ 2 by decide, show (2 : Int) ≤ 9223372036854775807 by decide⟩, ⟨show (-9223372036854775808 : Int) ≤ 0 by decide, show (0 : Int) ≤ 9223372036854775807 by decide⟩, Nat.le_trans h.2.1 (by decide), trivial, trivial⟩
  | .num n, h => by
    have h1 : -1000000000 ≤ n ∧ n ≤ 1000000000 := h
    rw [T.d_eq]
    exact ⟨⟨show (-9223372036854775808 : Int) ≤ 3 by decide, show (3 : Int) ≤ 9223372036854775807 by decide⟩, ⟨show _ ≤ n by omega, show n ≤ _ by omega⟩, Nat.zero_le _, trivial, trivial⟩
  | .pair a b, h => by
    rw [T.d_eq]
    exact ⟨⟨show (-9223372036854775808 : Int) ≤ 4 by decide, show (4 : Int) ≤ 9223372036854775807 by decide⟩, ⟨show (-9223372036854775808 : Int) ≤ 0 by decide, show (0 : Int) ≤ 9223372036854775807 by decide⟩, Nat.zero_le _, ⟨T.good_wd h.1, T.good_wd h.2, trivial⟩, trivial⟩
theorem goods_wd : ∀ {l : List T}, (∀ x ∈ l, x.good) → D.wds ((l.map T.tm).map Tm.d)
  | [], _ => trivial
  | x :: l, h => ⟨T.good_wd (h x (by simp)), goods_wd fun y hy => h y (by simp [hy])⟩
end Go.Vx

/- Contracts: substitutions composed: the reference's side. -/
namespace Go.Vx
open Go.Proofs Classical
def GoodB (b : B) : Prop := b.to.good ∧ 0 ≤ b.var ∧ b.var ≤ 100000
theorem goodB_wd : ∀ {l : List B}, (∀ b ∈ l, GoodB b) → D.wds ((l.map B.bd).map Bd.d)
  | [], _ => trivial
  | b :: l, h => by
    obtain ⟨h1, h2, h3⟩ := h b (by simp)
    exact ⟨⟨⟨show (-9223372036854775808 : Int) ≤ b.var by omega, show b.var ≤ (9223372036854775807 : Int) by omega⟩, T.good_wd h1, trivial⟩, goodB_wd fun y hy => h y (by simp [hy])⟩
theorem Vals.good {bs : List B} (h : Vals bs) : ∀ b ∈ bs, GoodB b := fun b hb => ⟨(h.tok b hb).1, h.var b hb⟩
theorem compFrom_good {bt : List B} (ht : Vals bt) : ∀ {l acc R : List B}, (∀ b ∈ l, GoodB b) → (∀ b ∈ acc, GoodB b) → compFrom bt l acc = some R → ∀ b ∈ R, GoodB b
  | [], acc, R, _, ha, h => by
    rw [compFrom] at h; cases h; exact ha
  | b :: l, acc, R, hl, ha, h => by
    rw [compFrom] at h
    cases hf : fit (b.to.subst (sub bt)) with
    | none => rw [hf] at h; cases h
    | some x =>
      rw [hf] at h
      refine compFrom_good ht (fun c hc => hl c (by simp [hc])) ?_ h
      split
      · exact ha
      · intro c hc
        rcases List.mem_append.1 hc with hc | hc
        · exact ha c hc
        · rw [List.mem_singleton] at hc
          subst hc
          have hb := hl b (by simp)
          obtain ⟨_, rfl⟩ := fit_some.1 hf
          exact ⟨T.good_subst (fun n y hy => (sub_ok ht.tok hy).1) hb.1, hb.2⟩
/-- An insertion at its place keeps the order. -/
theorem insAt_perm {α : Type} (l : List α) (x : α) (k : Nat) : (insAt l x k).Perm (l ++ [x]) := by
  unfold insAt
  have h : (l.take k ++ ([x] ++ l.drop k)).Perm (l.take k ++ (l.drop k ++ [x])) := List.Perm.append_left _ List.perm_append_comm
  have e : l.take k ++ (l.drop k ++ [x]) = l ++ [x] := by rw [← List.append_assoc, List.take_append_drop]
  rw [e] at h
  exact h
theorem InsPos.asc {bs : List B} {b : B} {k : Nat} (h : AscB bs) (hk : InsPos bs b.var k) (hn : b.var ∉ bs.map B.var) : AscB (insAt bs b k) := by
  obtain ⟨hk0, hk1, hk2⟩ := hk
  unfold insAt AscB
  have h1 : ∀ a ∈ bs.take k, a.var < b.var := fun a ha => by
    obtain ⟨i, hi⟩ := List.mem_iff_getElem?.1 ha
    have hik : i < k := by
      have := (List.getElem?_eq_some_iff.1 hi).1
      rw [List.length_take] at this; omega
    rw [List.getElem?_take_of_lt hik] at hi
    have hne : a.var ≠ b.var := fun e => hn (by rw [← e]; exact List.mem_map.2 ⟨a, mem_at hi, rfl⟩)
    obtain ⟨c, hc⟩ := at_some (l := bs) (i := k - 1) (by omega)
    have h2 := hk1 c hc (by omega)
    rcases Nat.lt_or_ge i (k - 1) with h3 | h3
    · have := h.srt i (k - 1) a c h3 hi hc; omega
    · obtain rfl : i = k - 1 := by omega
      rw [hi] at hc; cases hc; omega
  have h2 : ∀ a ∈ bs.drop k, b.var < a.var := fun a ha => by
    obtain ⟨i, hi⟩ := List.mem_iff_getElem?.1 ha
    rw [List.getElem?_drop] at hi
    exact hk2 (k + i) a (by omega) hi
  rw [List.pairwise_append, List.pairwise_append]
  refine ⟨h.sublist (List.take_sublist _ _), ⟨List.pairwise_singleton _ _, h.sublist (List.drop_sublist _ _), fun a ha c hc => ?_⟩, fun a ha c hc => ?_⟩
  · rw [List.mem_singleton] at ha; subst ha; exact h2 c hc
  · rcases List.mem_append.1 hc with hc | hc
    · rw [List.mem_singleton] at hc; subst hc; exact h1 a ha
    · have := h1 a ha; have := h2 c hc; omega
section
variable {μ : Mem}
theorem RepV.bd {n : Int} {x : T} {q : Option Addr × Nat} (h : RepV μ x.tm.d (.agg (x.tm.cs q).toArray)) : RepV μ (B.bd ⟨n, x⟩).d (.agg (Value.int .i64 n :: x.tm.cs q).toArray) := by
  have hc := RepV.cells h
  have e : vcells (.agg (x.tm.cs q).toArray) = x.tm.cs q := by simp [vcells]
  rw [e] at hc
  exact ⟨_, rfl, RepS.int (RepS.last hc)⟩
theorem l04Copy_spec {bs : List B} {base : Option Addr} {cap : Nat} (hsl : Sl μ 5 base bs.length ((bs.map B.bd).map Bd.d)) (hn : bs.length ≤ 1000000) :
    Spec Try.prog 72 [.slice base bs.length cap] μ fun v μ' => RepV μ' (.sl 5 ((bs.map B.bd).map Bd.d)) v := by
  refine Spec.mkO [6] Try.func72 (by kernel_rfl) ?_
  intro r6 hm6 ho6
  refine loop_intro (fun p : Nat × Nat × Nat × Nat × List Value × Mem × Mem => p.1 ≤ bs.length ∧ p.2.2.2.2.1.length = p.2.2.2.1 ∧ RowO p.2.2.2.2.2.2 p.2.1 p.2.2.1 109 5 p.2.2.2.2.1 ∧ Apart p.2.2.2.2.2.1 p.2.2.2.2.2.2 ∧ μ.Le p.2.2.2.2.2.1 ∧ Rows p.2.2.2.2.2.1 5 (((bs.take p.1).map B.bd).map Bd.d) p.2.2.2.2.1)
    (fun (i, b, c, m, ys, μ', h) => ⟨[(3, .val (.slice (some ⟨b, 0, none⟩) m c)), (7, .val (.slice base bs.length cap)), (8, .val (.int .i64 bs.length)), (9, .val (.int .i64 i))], [], 0, μ', h⟩) (fun p => bs.length - p.1)
    (0, r6, 0, 0, [], μ, _) ⟨by simp, rfl, ⟨[], Mem.set_at _ _ _, by simp, by simp, by simp, rfl, rfl⟩, (apart_nil μ).set hm6, Mem.Le.refl _, .nil⟩ (fun (_, _, _, _, _, _, _) => ⟨rfl, rfl⟩) ⟨⟨rfl, rfl, rfl, rfl, trivial⟩, trivial, rfl, rfl⟩ ?_
  clear hm6 ho6
  rintro ⟨i, b, c, m, ys, μ', h⟩ ⟨hi, hm, hb, hap, hle, hgr⟩
  dsimp only at hi hm hb hap hle hgr
  have hyl := hgr.len
  simp only [List.length_map, List.length_take] at hyl
  refine ifd (fun hlt => ?_) (fun hlt => ?_)
  · obtain ⟨x, hx⟩ := at_some (l := bs) (i := i) (by omega)
    obtain ⟨ad, p, hel, hto⟩ := B.elem (hsl.mono hle) hx
    refine elem_intro hel ?_
    intro r5
    refine call_data hap (l02Copy_spec x.to hto) fun v1 μ1 hle1 hap1 hR => ?_
    obtain ⟨q, rfl⟩ := Tm.invV hR
    intro r20
    refine app_intro ys hm hb ?_ ?_ fun b' c' o hrow hor => ?_
    · show (m + 1) * 64 ≤ _; omega
    · exact Nat.le_trans (m := 100000000) (show m + 1 ≤ _ by omega) (by decide)
    refine num64 (by omega) (by omega) ⟨(i + 1, b', c', m + 1, _, μ1, _), ⟨by dsimp only; omega, by dsimp only; rw [List.length_append, hm]; rfl, hrow, hap1.set (apartB hb hap1 hor), hle.trans hle1, ?_⟩, by dsimp only; omega, ⟨⟨rfl, rfl, rfl, rfl, trivial⟩, trivial, rfl, rfl⟩⟩
    dsimp only
    rw [List.take_add_one, hx, Option.toList_some]
    simp only [List.map_append, List.map_cons, List.map_nil]
    exact (hgr.mono hle1).append (Rows.one (RepV.bd hR) (Bd.d_n _))
  · obtain rfl : i = bs.length := by omega
    rw [List.take_length] at hgr
    refine ret_own _ Mem.nil (Parts.nil_right _) ?_
    obtain ⟨cs, hcell, hlen0, hcap, hone, hcs, htake⟩ := hb
    have hb2 : μ' b = none := by
      cases e : μ' b with
      | none => rfl
      | some o => have := hap b (by simp [e]); rw [hcell] at this; cases this
    have hrow : RowAt (μ'.join h) (some b) c 5 ys := ⟨hlen0, hone, _, _, by rw [Mem.join_get, hb2]; exact hcell, by simpa using hcs, by simpa using htake⟩
    subst hm
    exact Rows.sl hrow (hgr.mono (Mem.le_join _ _)) (Nat.le_trans (m := 100000000) (by omega) (by decide))
/-- What stands for the growing list: a row of one's own, or data. -/
def HoldsB (μ : Mem) (S : List B) : (Option Nat × Nat × List Value) ⊕ Value → Prop
  | .inl (_, _, ys) => Rows μ 5 ((S.map B.bd).map Bd.d) ys
  | .inr v => RepV μ (.sl 5 ((S.map B.bd).map Bd.d)) v
set_option maxHeartbeats 4000000 in
theorem spec_ComposeSubst_spec {l m : List Bd} {base base2 : Option Addr} {cap cap2 : Nat} (hsl : Sl μ 5 base l.length (l.map Bd.d)) (hwl : D.wds (l.map Bd.d)) (hsm : Sl μ 5 base2 m.length (m.map Bd.d)) (hwm : D.wds (m.map Bd.d)) :
    Spec Try.prog 23 [.slice base l.length cap, .slice base2 m.length cap2] μ fun v μ' => optB (fun y tv => RepV μ' (.sl 5 ((y.map B.bd).map Bd.d)) tv) (comp l m) v := by
  refine Spec.mk Try.func23 (by kernel_rfl) ?_
  refine call_gives (spec_SubstOk_spec hsl hwl) ?_
  refine ifnd (fun h => ret_plain (by rw [comp, if_neg fun k => h k.1]; rfl)) (fun h1 => ?_)
  refine call_gives (spec_SubstOk_spec hsm hwm) ?_
  refine ifnd (fun h => ret_plain (by rw [comp, if_neg fun k => h k.2]; rfl)) (fun h2 => ?_)
  have hcmp : comp l m = compL (l.map Bd.b) (m.map Bd.b) := by rw [comp, if_pos ⟨h1, h2⟩]
  rw [hcmp]
  obtain ⟨bs, rfl, hbs⟩ := h1.subst
  obtain ⟨bt, rfl, hbt⟩ := h2.subst
  clear hcmp
  rw [B.map_b, B.map_b]
  simp only [List.length_map] at hsl hsm ⊢
  have hlen := hbs.vals.len
  have hlen2 := hbt.vals.len
  generalize hout : compL bs bt = O
  rw [compL] at hout
  generalize hc : compFrom bt bs [] = R at hout
  have hgood : ∀ z, R = some z → ∀ b ∈ z, GoodB b := fun z hz => compFrom_good hbt.vals hbs.vals.good (by simp) (hc.trans hz)
  intro r23
  refine loop_intro (fun p : Nat × Option Nat × Nat × List Value × List B × Mem => p.1 ≤ bs.length ∧ μ.Le p.2.2.2.2.2 ∧ Rows p.2.2.2.2.2 5 ((p.2.2.2.2.1.map B.bd).map Bd.d) p.2.2.2.1 ∧ compFrom bt (bs.drop p.1) p.2.2.2.2.1 = R ∧ (p.2.2.2.2.1.map B.var).Sublist ((bs.take p.1).map B.var))
    (fun (i, b, c, ys, acc, μ') => ⟨[(0, .val (.slice base bs.length cap)), (1, .val (.slice base2 bt.length cap2)), (6, .row 0 b ys.length c), (24, .val (.slice base bs.length cap)), (25, .val (.int .i64 bs.length)), (26, .val (.int .i64 i))], [(0, some (.row b c 109 5 ys))], 1, μ', Mem.nil⟩) (fun p => bs.length - p.1)
    (0, some r23, 0, [], [], μ) ⟨by simp, Mem.Le.refl _, .nil, hc, by simp⟩ (fun (_, _, _, _, _, _) => ⟨rfl, rfl⟩) ⟨⟨rfl, rfl, rfl, rfl, rfl, rfl, trivial⟩, ⟨rfl, trivial⟩, rfl, rfl⟩ ?_
  clear hc
  rintro ⟨i, b, c, ys, acc, μ'⟩ ⟨hi, hle, hgr, hJ, hsub⟩
  dsimp only at hi hle hgr hJ hsub
  have hyl := hgr.len
  have hal := hsub.length_le
  simp only [List.length_map, List.length_take] at hyl hal
  refine ifd (fun hlt => ?_) (fun hlt => ?_)
  · obtain ⟨x, hx⟩ := at_some (l := bs) (i := i) (by omega)
    obtain ⟨ad, p, hel, hto⟩ := B.elem (hsl.mono hle) hx
    rw [drop_at hx, compFrom] at hJ
    have hsub1 : ∀ z : T, ((acc ++ [B.mk x.var z]).map B.var).Sublist ((bs.take (i + 1)).map B.var) := fun z => by
      rw [List.take_add_one, hx, Option.toList_some, List.map_append, List.map_append]
      exact hsub.append (List.Sublist.refl _)
    have hsub2 : (acc.map B.var).Sublist ((bs.take (i + 1)).map B.var) := by
      rw [List.take_add_one, List.map_append]
      exact hsub.trans (List.sublist_append_left _ _)
    refine elem_intro hel ?_
    intro r8
    refine call_plain (l04Apply_spec x.to (hsm.mono hle) hto) fun v1 μ1 hle1 hR => ?_
    obtain ⟨tv, rfl, htv⟩ := hR
    obtain ⟨q, rfl⟩ := Tm.invV htv
    intro r9
    refine ifnd (fun h3 => ?_) (fun h3 => ?_)
    · rw [fit, if_neg h3] at hJ
      obtain rfl : none = R := hJ
      obtain rfl : none = O := hout
      exact ret_plain rfl
    rw [fit, if_pos h3] at hJ
    dsimp only at hJ
    generalize x.to.subst (sub bt) = y at *
    refine ifnd (fun hk => ?_) (fun hk => ?_)
    · rw [if_neg fun e => hk ((T.isVar (n := x.var)).2 e).1] at hJ
      intro r54
      refine grow_intro ?_ ?_ fun b' c' _ => ?_
      · show (ys.length + 1) * 64 ≤ _; omega
      · exact Nat.le_trans (m := 100000000) (show ys.length + 1 ≤ _ by omega) (by decide)
      refine num64 (by omega) (by omega) ⟨(i + 1, b', c', _, acc ++ [⟨x.var, y⟩], μ1), ⟨by dsimp only; omega, hle.trans hle1, ?_, hJ, hsub1 _⟩, by dsimp only; omega, ⟨⟨rfl, rfl, rfl, rfl, rfl, rfl, trivial⟩, ⟨rfl, trivial⟩, rfl, rfl⟩⟩
      dsimp only
      rw [List.map_append, List.map_append]
      exact (hgr.mono hle1).append (Rows.one (RepV.bd htv) (Bd.d_n _))
    refine ifnd (fun hk2 => ?_) (fun hk2 => ?_)
    · rw [if_neg fun e => hk2 ((T.isVar (n := x.var)).2 e).2] at hJ
      intro r54
      refine grow_intro ?_ ?_ fun b' c' _ => ?_
      · show (ys.length + 1) * 64 ≤ _; omega
      · exact Nat.le_trans (m := 100000000) (show ys.length + 1 ≤ _ by omega) (by decide)
      refine num64 (by omega) (by omega) ⟨(i + 1, b', c', _, acc ++ [⟨x.var, y⟩], μ1), ⟨by dsimp only; omega, hle.trans hle1, ?_, hJ, hsub1 _⟩, by dsimp only; omega, ⟨⟨rfl, rfl, rfl, rfl, rfl, rfl, trivial⟩, ⟨rfl, trivial⟩, rfl, rfl⟩⟩
      dsimp only
      rw [List.map_append, List.map_append]
      exact (hgr.mono hle1).append (Rows.one (RepV.bd htv) (Bd.d_n _))
    · rw [if_pos ((T.isVar (n := x.var)).1 ⟨hk, hk2⟩)] at hJ
      refine num64 (by omega) (by omega) ⟨(i + 1, b, c, ys, acc, μ1), ⟨by dsimp only; omega, hle.trans hle1, hgr.mono hle1, hJ, hsub2⟩, by dsimp only; omega, ⟨⟨rfl, rfl, rfl, rfl, rfl, rfl, trivial⟩, ⟨rfl, trivial⟩, rfl, rfl⟩⟩
  obtain rfl : i = bs.length := by omega
  rw [List.drop_length, compFrom] at hJ
  rw [List.take_length] at hsub
  subst hJ
  dsimp only at hout
  have hgacc := hgood acc rfl
  have hbsa := hbs.vals.srt.asc
  have hbta := hbt.vals.srt.asc
  have hacc : AscB acc := by
    have h5 : (bs.map B.var).Pairwise (· < ·) := by rw [List.pairwise_map]; exact hbsa
    have h6 := h5.sublist hsub
    rw [List.pairwise_map] at h6
    exact h6
  have hin : ∀ n, sub bs n = none → n ∉ acc.map B.var := fun n hn hm => by
    obtain ⟨z, hz, rfl⟩ := List.mem_map.1 (hsub.subset hm)
    exact sub_mem hz hn
  have hal0 : acc.length ≤ 400 := by omega
  clear hsub hal hi hlt
  refine loop_intro (fun p : Nat × Mem × List B × ((Option Nat × Nat × List Value) ⊕ Value) => p.1 ≤ bt.length ∧ μ.Le p.2.1 ∧ p.2.2.1.Perm (acc ++ restB bs (bt.take p.1)) ∧ AscB p.2.2.1 ∧ HoldsB p.2.1 p.2.2.1 p.2.2.2)
    (fun (i, μ', S, o) => match o with
      | .inl (b, c, ys) => ⟨[(0, .val (.slice base bs.length cap)), (6, .row 0 b ys.length c), (57, .val (.slice base2 bt.length cap2)), (58, .val (.int .i64 bt.length)), (59, .val (.int .i64 i))], [(0, some (.row b c 109 5 ys))], 1, μ', Mem.nil⟩
      | .inr v => ⟨[(0, .val (.slice base bs.length cap)), (6, .val v), (57, .val (.slice base2 bt.length cap2)), (58, .val (.int .i64 bt.length)), (59, .val (.int .i64 i))], [], 1, μ', Mem.nil⟩) (fun p => bt.length - p.1)
    (0, μ', acc, .inl (b, c, ys)) ⟨by simp, hle, by simp [restB], hacc, hgr⟩ (by rintro ⟨_, _, _, ⟨_, _, _⟩ | _⟩ <;> exact ⟨rfl, rfl⟩) ⟨⟨rfl, rfl, rfl, rfl, rfl, trivial⟩, ⟨rfl, trivial⟩, rfl, rfl⟩ ?_
  clear hgr hle hyl
  rintro ⟨i, μ', S, o⟩ ⟨hi, hle, hperm, hasc, hh⟩
  dsimp only at hi hle hperm hasc hh
  have hfl : (restB bs (bt.take i)).length ≤ i := Nat.le_trans (List.length_filter_le _ _) (by simp; omega)
  have hSl := hperm.length_eq
  rw [List.length_append] at hSl
  have hrest : ∀ x, bt[i]? = some x → restB bs (bt.take (i + 1)) = restB bs (bt.take i) ++ if sub bs x.var = none then [x] else [] := fun x hx => by
    rw [restB, List.take_add_one, hx, Option.toList_some, List.filter_append, restB]
    congr 1
    by_cases h : sub bs x.var = none
    · simp [h]
    · simp [h]
  have hnew : ∀ x, bt[i]? = some x → sub bs x.var = none → x.var ∉ S.map B.var := fun x hx hs hm => by
    rw [(hperm.map _).mem_iff, List.map_append, List.mem_append] at hm
    rcases hm with hm | hm
    · exact hin _ hs hm
    · obtain ⟨z, hz, e⟩ := List.mem_map.1 hm
      have hz2 := (List.mem_filter.1 hz).1
      obtain ⟨j, hj⟩ := List.mem_iff_getElem?.1 hz2
      have hji : j < i := by
        have := (List.getElem?_eq_some_iff.1 hj).1
        rw [List.length_take] at this; omega
      rw [List.getElem?_take_of_lt hji] at hj
      have := hbta.srt j i z x hji hj hx
      omega
  have hfin : i = bt.length → S = sortB (acc ++ restB bs bt) ∧ D.wds ((S.map B.bd).map Bd.d) := fun e => by
    subst e
    rw [List.take_length] at hperm
    refine ⟨sortB_uniq hperm hasc, goodB_wd fun z hz => ?_⟩
    rcases List.mem_append.1 (hperm.mem_iff.1 hz) with hz | hz
    · exact hgacc z hz
    · exact hbt.vals.good z (List.mem_filter.1 hz).1
  rcases o with ⟨b, c, ys⟩ | v
  · have hyl := Rows.len hh
    simp only [List.length_map] at hyl
    refine ifd (fun hlt => ?_) (fun hlt => ?_)
    · obtain ⟨x, hx⟩ := at_some (l := bt) (i := i) (by omega)
      obtain ⟨ad, p, hel, hto⟩ := B.elem (hsm.mono hle) hx
      have hbd := RepV.bd (n := x.var) hto
      have hr := hrest x hx
      refine elem_intro hel ?_
      intro r12
      refine call_plain (l04Get_spec (hsl.mono hle)) fun v1 μ1 hle1 hR => ?_
      obtain ⟨hR, e5⟩ := hR
      obtain rfl := e5.symm
      rcases hs : sub bs x.var with _ | y
      rotate_left
      · have hs' : sub bs x.bd.var = some y := hs
        rw [hs'] at hR
        obtain ⟨tv, rfl, htv⟩ := hR
        obtain ⟨q, rfl⟩ := Tm.invV htv
        intro r13
        refine if_intro (fun h => nomatch h) (fun _ => ?_)
        rw [if_neg (by rw [hs]; simp), List.append_nil] at hr
        refine num64 (by omega) (by omega) ⟨(i + 1, μ', S, .inl (b, c, ys)), ⟨by dsimp only; omega, hle, by dsimp only; rw [hr]; exact hperm, hasc, hh⟩, by dsimp only; omega, ⟨⟨rfl, rfl, rfl, rfl, rfl, trivial⟩, ⟨rfl, trivial⟩, rfl, rfl⟩⟩
      · have hs' : sub bs x.bd.var = none := hs
        rw [hs'] at hR
        obtain rfl := hR
        intro r13
        refine if_intro (fun _ => ?_) (fun h => nomatch h)
        rw [if_pos hs] at hr
        refine call_frz [0] ?_
        intro μ3 hle3 hno3 hrow
        have hv := Rows.sl hrow (Rows.mono hle3 hh) (Nat.le_trans (m := 100000000) (by omega) (by decide))
        refine call_go (l04Insert_spec hv (hbd.mono hle3) (by omega)) fun v4 μ4 hle4 hR4 => ?_
        obtain ⟨k, hk, hR4⟩ := hR4
        refine num64 (by omega) (by omega) ⟨(i + 1, μ4, insAt S x k, .inr v4), ⟨by dsimp only; omega, hle.trans (hle3.trans hle4), ?_, hk.asc hasc (hnew x hx hs), hR4⟩, by dsimp only; omega, ⟨⟨rfl, rfl, rfl, rfl, rfl, trivial⟩, trivial, rfl, rfl⟩⟩
        dsimp only
        rw [hr, ← List.append_assoc]
        exact (insAt_perm S x k).trans (hperm.append_right _)
    · obtain ⟨hS, hwd⟩ := hfin (by omega)
      refine call_frz [0] ?_
      intro μ3 hle3 hno3 hrow
      have hv := Rows.sl hrow (Rows.mono hle3 hh) (Nat.le_trans (m := 100000000) (by omega) (by decide))
      obtain ⟨bb, cc, e1, hs1⟩ := Rep.sl hv
      rw [List.length_map] at hs1 e1
      have hok := spec_SubstOk_spec (cap := cc) hs1 hwd
      rw [List.length_map] at hs1 e1 hok
      have hcp := l04Copy_spec (cap := cc) hs1 (by omega)
      rw [← e1] at hcp
      rw [e1]
      refine call_go hok fun v5 μ5 hle5 hR5 => ?_
      obtain ⟨rfl, e5⟩ := hR5
      obtain rfl := e5.symm
      subst hout
      rw [← hS]
      refine ifnd (fun h => ?_) (fun h => ?_)
      · refine ret_plain ?_
        rw [if_neg fun k => h ((substOk_iff S).2 k)]
        rfl
      · rw [if_pos ((substOk_iff S).1 h)]
        refine call_plain hcp fun v6 μ6 hle6 hR6 => ?_
        exact ret_plain ⟨_, rfl, hR6⟩
  · refine ifd (fun hlt => ?_) (fun hlt => ?_)
    · obtain ⟨x, hx⟩ := at_some (l := bt) (i := i) (by omega)
      obtain ⟨ad, p, hel, hto⟩ := B.elem (hsm.mono hle) hx
      have hbd := RepV.bd (n := x.var) hto
      have hr := hrest x hx
      refine elem_intro hel ?_
      intro r12
      refine call_plain (l04Get_spec (hsl.mono hle)) fun v1 μ1 hle1 hR => ?_
      obtain ⟨hR, e5⟩ := hR
      obtain rfl := e5.symm
      rcases hs : sub bs x.var with _ | y
      rotate_left
      · have hs' : sub bs x.bd.var = some y := hs
        rw [hs'] at hR
        obtain ⟨tv, rfl, htv⟩ := hR
        obtain ⟨q, rfl⟩ := Tm.invV htv
        intro r13
        refine if_intro (fun h => nomatch h) (fun _ => ?_)
        rw [if_neg (by rw [hs]; simp), List.append_nil] at hr
        refine num64 (by omega) (by omega) ⟨(i + 1, μ', S, .inr v), ⟨by dsimp only; omega, hle, by dsimp only; rw [hr]; exact hperm, hasc, hh⟩, by dsimp only; omega, ⟨⟨rfl, rfl, rfl, rfl, rfl, trivial⟩, trivial, rfl, rfl⟩⟩
      · have hs' : sub bs x.bd.var = none := hs
        rw [hs'] at hR
        obtain rfl := hR
        intro r13
        refine if_intro (fun _ => ?_) (fun h => nomatch h)
        rw [if_pos hs] at hr
        refine call_plain (l04Insert_spec hh hbd (by omega)) fun v4 μ4 hle4 hR4 => ?_
        obtain ⟨k, hk, hR4⟩ := hR4
        refine num64 (by omega) (by omega) ⟨(i + 1, μ4, insAt S x k, .inr v4), ⟨by dsimp only; omega, hle.trans hle4, ?_, hk.asc hasc (hnew x hx hs), hR4⟩, by dsimp only; omega, ⟨⟨rfl, rfl, rfl, rfl, rfl, trivial⟩, trivial, rfl, rfl⟩⟩
        dsimp only
        rw [hr, ← List.append_assoc]
        exact (insAt_perm S x k).trans (hperm.append_right _)
    · obtain ⟨hS, hwd⟩ := hfin (by omega)
      obtain ⟨bb, cc, rfl, hs1⟩ := Rep.sl hh
      rw [List.length_map] at hs1 ⊢
      have hok := spec_SubstOk_spec (cap := cc) hs1 hwd
      rw [List.length_map] at hs1 hok ⊢
      have hcp := l04Copy_spec (cap := cc) hs1 (by omega)
      refine call_gives hok ?_
      subst hout
      rw [← hS]
      refine ifnd (fun h => ?_) (fun h => ?_)
      · refine ret_plain ?_
        rw [if_neg fun k => h ((substOk_iff S).2 k)]
        rfl
      · rw [if_pos ((substOk_iff S).1 h)]
        refine call_plain hcp fun v6 μ6 hle6 hR6 => ?_
        exact ret_plain ⟨_, rfl, hR6⟩
end
end Go.Vx

/- Contracts: marks held by bindings. -/
namespace Go.Vx
open Go.Proofs Classical
section
variable {μ : Mem}
theorem heldBindingS_spec {l : List Bd} {v : Value} {k : Int} (ho : RepV μ (.sl 5 (D.mks (l.map Bd.d) k).1) v) (hk : 0 ≤ k) (hk2 : k + D.cnts (l.map Bd.d) ≤ 9223372036854775807) :
    Gives Try.prog 28 [v, .int .i64 k] μ (.int .i64 (D.mks (l.map Bd.d) k).2) := by
  obtain ⟨base, cap, rfl, hsl⟩ := Rep.sl ho
  have hm' := Nat.le_trans hsl.max (show maxLen ≤ 9223372036854775807 by decide)
  rw [D.mks_length] at hm' hsl ⊢
  refine Spec.mk Try.func28 (by kernel_rfl) ?_
  generalize hxs : l.map Bd.d = xs at *
  refine loop_intro (fun i : Nat => i ≤ xs.length) (fun i => ⟨[(0, .val (.slice base xs.length cap)), (1, .val (.int .i64 (D.mks (xs.take i) k).2)), (5, .val (.int .i64 i))], [], 0, μ, Mem.nil⟩) (fun i => xs.length - i)
    0 (by simp) (fun i => ⟨rfl, rfl⟩) ⟨⟨rfl, rfl, rfl, trivial⟩, trivial, rfl, rfl⟩ ?_
  intro i hi
  have hge := D.mks_cnt (xs.take i) k
  refine ifd (fun h => ?_) (fun h => ?_)
  · obtain ⟨t, ht⟩ := at_some (l := l) (i := i) (by rw [← hxs] at h; simp at h; omega)
    have hx : xs[i]? = some t.d := by rw [← hxs]; simp [ht]
    have hcnt := Marking.cnt (k := k) hx
    rw [Bd.cnt_eq] at hcnt
    obtain ⟨ad, cs, hel, hcs⟩ := hsl.get i _ (D.mks_get hx k)
    have hmk := D.mks_take hx k
    have hmk2 := Bd.mk_eq t (D.mks (xs.take i) k).2
    rw [hmk2] at hcs
    obtain ⟨_, _, rfl, rfl, c8, c9, rfl, h8, rfl⟩ := hcs
    obtain ⟨_, _, rfl, rfl, _, _, rfl, rfl, _, _, rfl, rfl, c7, _, rfl, h7, rfl⟩ := h8
    have hl := Rep.len _ _ h7
    match c7, hl with
    | [v], _ =>
      have h7' := h7
      obtain ⟨b2, cap2, rfl, _⟩ := h7'.sl
      have hge2 := D.mks_cnt (t.to.args.map Tm.d) ((D.mks (xs.take i) k).2 + 1 + 1 + 1 + 1)
      refine elem_intro hel (ifnd (fun h => absurd rfl h) fun _ => ?_)
      refine num64 (by omega) (by omega) ?_
      refine elem_intro hel (ifnd (fun h => absurd rfl h) fun _ => ?_)
      refine num64 (by omega) (by omega) ?_
      refine elem_intro hel (ifnd (fun h => absurd rfl h) fun _ => ?_)
      refine num64 (by omega) (by omega) ?_
      refine elem_intro hel ?_
      refine call_gives (markText_spec _ (by omega)) ?_
      refine ifnd (fun h => absurd rfl h) fun _ => ?_
      refine num64 (by omega) (by omega) ?_
      refine elem_intro hel ?_
      refine call_gives (heldTermS_spec h7 (by omega) (by omega)) ?_
      refine ifd (fun h => absurd h (by omega)) (fun _ => ?_)
      refine num64 (by omega) (by omega) ?_
      exact ⟨i + 1, by omega, by omega, ⟨⟨rfl, by rw [hmk, hmk2]; rfl, rfl, trivial⟩, trivial, rfl, rfl⟩⟩
  · have hi' : i = xs.length := by omega
    subst hi'
    rw [List.take_length]
    exact ret_gives rfl rfl
end
end Go.Vx

/- The law on substitutions composed. -/
namespace Go.Vx
open Go.Proofs Classical
section
variable {μ : Mem}
def resB (o : Option (List B)) : List Bd := (o.getD []).map B.bd
theorem optB_rep {μ : Mem} {o : Option (List B)} {v : Value} (h : optB (fun y tv => RepV μ (.sl 5 ((y.map B.bd).map Bd.d)) tv) o v) : ∃ tv, v = .tuple #[tv, .bool o.isSome] ∧ RepV μ (.sl 5 ((resB o).map Bd.d)) tv := by
  cases o with
  | some y => obtain ⟨tv, rfl, h⟩ := h; exact ⟨tv, rfl, h⟩
  | none => exact ⟨_, h, OwnV.rep (h := Mem.nil) (Own.nilSl 5) (fun _ _ h => nomatch h)⟩
theorem optB_fresh {μ μ' : Mem} {o : Option (List B)} {v : Value} (h : optB (fun y tv => Fresh μ μ' (.sl 5 ((y.map B.bd).map Bd.d)) tv) o v) : ∃ tv, v = .tuple #[tv, .bool o.isSome] ∧ Fresh μ μ' (.sl 5 ((resB o).map Bd.d)) tv := by
  cases o with
  | some y => obtain ⟨tv, rfl, h⟩ := h; exact ⟨tv, rfl, h⟩
  | none => exact ⟨_, h, Mem.nil, Own.nilSl 5, (fun _ _ h => nomatch h), fun _ h => absurd rfl h⟩
theorem bds_cnt2 : ∀ l : List B, (∀ b ∈ l, b.to.size ≤ 5000) → D.cnts ((l.map B.bd).map Bd.d) ≤ 15001 * l.length
  | [], _ => by simp [D.cnts]
  | b :: l, h => by
    have ih := bds_cnt2 l fun x hx => h x (by simp [hx])
    have h1 := h b (by simp)
    have h2 := tm_cnt b.bd.to
    have h3 : b.bd.to.cnt = b.to.size := T.cnt_tm b.to
    rw [Tm.cnt_eq] at h2
    simp only [List.map_cons, D.cnts, List.length_cons]
    rw [Bd.cnt_eq]
    omega
theorem comp_size (l m : List Bd) : D.cnts ((resB (comp l m)).map Bd.d) ≤ 15001 * 400 := by
  have h0 : D.cnts ((resB none).map Bd.d) ≤ 15001 * 400 := by simp [resB, D.cnts]
  unfold comp
  split
  · unfold compL
    split
    · exact h0
    · split
      · rename_i k
        have h1 := bds_cnt2 _ fun b hb => (k.vals.tok b hb).2
        have h2 := k.vals.len
        rw [resB, Option.getD_some]
        have := Nat.mul_le_mul_left 15001 h2
        omega
      · exact h0
  · exact h0
set_option maxHeartbeats 4000000 in
theorem FnExactComposeSubst_spec {t0 : List Bd} {v0 : Value} {t1 : List Bd} {v1 : Value} (h0 : RepV μ (.sl 5 (t0.map Bd.d)) v0) (h1 : RepV μ (.sl 5 (t1.map Bd.d)) v1) (w0 : D.wds (t0.map Bd.d)) (w1 : D.wds (t1.map Bd.d)) :
    Spec Try.prog 5 [v0, v1] μ fun r _ => r = .bool true := by
  obtain ⟨b0, c0, rfl, s0⟩ := Rep.sl h0
  rw [List.length_map] at s0 ⊢
  obtain ⟨b1, c1, rfl, s1⟩ := Rep.sl h1
  rw [List.length_map] at s1 ⊢
  refine Spec.mk Try.func5 (by kernel_rfl) ?_
  refine call_gives (szBindingS_spec s0 (by omega) (by omega) w0) ?_
  refine ifd (fun h => ret_plain rfl) (fun h => ?_)
  have q0 := szR_ge h
  rw [szR_pos q0] at h ⊢
  refine call_gives (szBindingS_spec s1 (by omega) (by omega) w1) ?_
  refine ifd (fun h => ret_plain rfl) (fun h => ?_)
  have q1 := szR_ge h
  rw [szR_pos q1] at h
  have hb0 : t0.length + D.szs (t0.map Bd.d) ≤ 1048576 := by omega
  have hb1 : t1.length + D.szs (t1.map Bd.d) ≤ 1048576 := by omega
  refine call_plain (toBindingS_spec s0 hb0) fun u1 μ1 hle1 hf1 => ?_
  replace s0 := s0.mono hle1
  replace s1 := s1.mono hle1
  obtain ⟨bb2, cc2, rfl, a0⟩ := Rep.sl hf1.rep
  rw [List.length_map] at a0 ⊢
  refine call_plain (toBindingS_spec s1 hb1) fun u3 μ3 hle3 hf3 => ?_
  replace s0 := s0.mono hle3
  replace s1 := s1.mono hle3
  replace a0 := a0.mono hle3
  obtain ⟨bb4, cc4, rfl, a1⟩ := Rep.sl hf3.rep
  rw [List.length_map] at a1 ⊢
  refine call_plain (spec_ComposeSubst_spec a0 w0 a1 w1) fun u5 μ5 hle5 hR => ?_
  replace s0 := s0.mono hle5
  replace s1 := s1.mono hle5
  replace a0 := a0.mono hle5
  replace a1 := a1.mono hle5
  obtain ⟨w0, rfl, hw0⟩ := optB_rep hR
  obtain ⟨bb6, cc6, rfl, hw⟩ := Rep.sl hw0
  rw [List.length_map] at hw ⊢
  refine call_new id (apart_nil _) Owns.none ((toBindingS_spec (s0.mono (Mem.le_join _ _)) hb0).weaken fun v μ' _ h => ⟨v, rfl, h⟩) fun x0 μ7 H7 hle7 hap7 ho7 => ?_
  replace s0 := s0.mono hle7
  replace s1 := s1.mono hle7
  replace hw := hw.mono hle7
  obtain ⟨bb8, cc8, rfl, xx0⟩ := Rep.sl (Owns.rep (l1 := []) hap7 ho7)
  rw [List.length_map] at xx0 ho7 ⊢
  refine call_new id hap7 ho7 ((toBindingS_spec (s1.mono (Mem.le_join _ _)) hb1).weaken fun v μ' _ h => ⟨v, rfl, h⟩) fun x1 μ9 H9 hle9 hap9 ho9 => ?_
  replace s0 := s0.mono hle9
  replace s1 := s1.mono hle9
  replace hw := hw.mono hle9
  obtain ⟨bb10, cc10, rfl, xx1⟩ := Rep.sl (Owns.rep (l1 := [_]) hap9 ho9)
  rw [List.length_map] at xx1 ho9 ⊢
  obtain ⟨bn13, cn13, en13, ya12⟩ := Rep.sl (Owns.rep (l1 := []) hap9 ho9)
  rw [List.length_map] at ya12 en13
  obtain ⟨rfl, _, rfl⟩ := Value.slice.inj en13
  obtain ⟨bn15, cn15, en15, ya14⟩ := Rep.sl (Owns.rep (l1 := [_]) hap9 ho9)
  rw [List.length_map] at ya14 en15
  obtain ⟨rfl, _, rfl⟩ := Value.slice.inj en15
  refine call_new (fun gv => .tuple #[gv, .bool (comp t0 t1).isSome]) hap9 ho9 ((impl_ComposeSubst_spec ya12 ya14).weaken fun v μ' _ h => optB_fresh h) fun g0 μ11 H11 hle11 hap11 ho11 => ?_
  replace s0 := s0.mono hle11
  replace s1 := s1.mono hle11
  replace hw := hw.mono hle11
  obtain ⟨bb16, cc16, rfl, gg⟩ := Rep.sl (Owns.rep (l1 := [_, _]) hap11 ho11)
  rw [List.length_map] at gg ho11 ⊢
  obtain ⟨bn18, cn18, en18, yg17⟩ := Rep.sl (Owns.rep (l1 := [_, _]) hap11 ho11)
  rw [List.length_map] at yg17 en18
  obtain ⟨rfl, _, rfl⟩ := Value.slice.inj en18
  refine call_read hap11 (eqBindingS_spec yg17 (hw.mono (Mem.le_join _ _))) ?_
  refine if_intro (fun h => nomatch h) (fun _ => ?_)
  refine if_intro (fun h => absurd h (by simp)) (fun _ => ?_)
  refine call_data hap11 (toBindingS_spec s0 hb0) fun u19 μ19 hle19 hap19 hf19 => ?_
  replace s0 := s0.mono hle19
  replace s1 := s1.mono hle19
  replace hw := hw.mono hle19
  obtain ⟨bb20, cc20, rfl, z0⟩ := Rep.sl hf19.rep
  rw [List.length_map] at z0 ⊢
  obtain ⟨bn22, cn22, en22, yb21⟩ := Rep.sl (Owns.rep (l1 := []) hap19 ho11)
  rw [List.length_map] at yb21 en22
  obtain ⟨rfl, _, rfl⟩ := Value.slice.inj en22
  refine call_read hap19 (eqBindingS_spec yb21 (z0.mono (Mem.le_join _ _))) ?_
  refine if_intro (fun h => nomatch h) (fun _ => ?_)
  refine call_data hap19 (toBindingS_spec s1 hb1) fun u23 μ23 hle23 hap23 hf23 => ?_
  replace s0 := s0.mono hle23
  replace s1 := s1.mono hle23
  replace hw := hw.mono hle23
  obtain ⟨bb24, cc24, rfl, z1⟩ := Rep.sl hf23.rep
  rw [List.length_map] at z1 ⊢
  obtain ⟨bn26, cn26, en26, yb25⟩ := Rep.sl (Owns.rep (l1 := [_]) hap23 ho11)
  rw [List.length_map] at yb25 en26
  obtain ⟨rfl, _, rfl⟩ := Value.slice.inj en26
  refine call_read hap23 (eqBindingS_spec yb25 (z1.mono (Mem.le_join _ _))) ?_
  refine if_intro (fun h => nomatch h) (fun _ => ?_)
  have ca0 := bds_cnt t0
  have ma0 := D.mks_cnt (t0.map Bd.d) (1)
  have ca1 := bds_cnt t1
  have ma1 := D.mks_cnt (t1.map Bd.d) ((D.mks (t0.map Bd.d) (1)).2)
  have rz := comp_size t0 t1
  have mg := D.mks_cnt ((resB (comp t0 t1)).map Bd.d) 1
  refine call_mark (l1 := []) hap23 ho11 (fun hx o => markBindingS_spec o (by omega) (by omega)) fun H27 hap27 ho27 => ?_
  refine call_mark (l1 := [_]) hap27 ho27 (fun hx o => markBindingS_spec o (by omega) (by omega)) fun H28 hap28 ho28 => ?_
  refine ifd (fun h => by omega) (fun _ => ?_)
  obtain ⟨bn30, cn30, en30, yg29⟩ := Rep.sl (Owns.rep (l1 := [_, _]) hap28 ho28)
  rw [List.length_map] at yg29 en30
  obtain ⟨rfl, _, rfl⟩ := Value.slice.inj en30
  refine call_read hap28 (eqBindingS_spec yg29 (hw.mono (Mem.le_join _ _))) ?_
  refine if_intro (fun h => nomatch h) (fun _ => ?_)
  refine if_intro (fun h => absurd h (by simp)) (fun _ => ?_)
  refine call_mark (l1 := [_, _]) hap28 ho28 (fun hx o => markBindingS_spec o (by omega) (by omega)) fun H31 hap31 ho31 => ?_
  refine call_read hap31 (heldBindingS_spec (Owns.rep (l1 := [_, _]) hap31 ho31) (by omega) (by omega)) ?_
  refine ifd (fun h => by omega) (fun _ => ?_)
  refine ifnd (fun h => absurd rfl h) (fun _ => ?_)
  refine call_data hap31 (toBindingS_spec s0 hb0) fun u32 μ32 hle32 hap32 hf32 => ?_
  replace s0 := s0.mono hle32
  replace s1 := s1.mono hle32
  replace hw := hw.mono hle32
  obtain ⟨bb33, cc33, rfl, o0⟩ := Rep.sl hf32.rep
  rw [List.length_map] at o0 ⊢
  refine call_data hap32 (toBindingS_spec s1 hb1) fun u34 μ34 hle34 hap34 hf34 => ?_
  replace s0 := s0.mono hle34
  replace s1 := s1.mono hle34
  replace hw := hw.mono hle34
  replace o0 := o0.mono hle34
  obtain ⟨bb35, cc35, rfl, o1⟩ := Rep.sl hf34.rep
  rw [List.length_map] at o1 ⊢
  refine call_data hap34 ((impl_ComposeSubst_spec o0 o1).weaken fun v μ' _ h => optB_fresh h) fun u36 μ36 hle36 hap36 hR => ?_
  replace s0 := s0.mono hle36
  replace s1 := s1.mono hle36
  replace hw := hw.mono hle36
  replace o0 := o0.mono hle36
  replace o1 := o1.mono hle36
  obtain ⟨h0, rfl, hh0⟩ := hR
  obtain ⟨bb37, cc37, rfl, hh⟩ := Rep.sl hh0.rep
  rw [List.length_map] at hh ⊢
  refine call_read hap36 (eqBindingS_spec (hh.mono (Mem.le_join _ _)) (hw.mono (Mem.le_join _ _))) ?_
  refine if_intro (fun h => nomatch h) (fun _ => ?_)
  refine if_intro (fun h => absurd h (by simp)) (fun _ => ?_)
  refine call_read hap36 (heldBindingS_spec (Owns.rep (l1 := [_, _]) hap36 ho31) (by omega) (by omega)) ?_
  refine ifd (fun h => by omega) (fun _ => ?_)
  refine ifnd (fun h => absurd rfl h) (fun _ => ?_)
  exact ret_plain rfl
end
end Go.Vx
