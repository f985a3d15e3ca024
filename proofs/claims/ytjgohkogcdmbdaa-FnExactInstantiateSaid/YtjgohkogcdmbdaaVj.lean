/- Contracts: marks on terms and bindings, and what holds them. -/
import Derived.Test.YtjgohkogcdmbdaaVi
import Derived.Test.YtjgohkogcdmbdaaVe
namespace Go.Vx
open Go.Proofs Classical
/-- A row of owned data in the midst of being marked: i elements are done; hh is what the elements own. -/
structure Marking (xs : List D) (k : Int) (rest : List Value) (r : Nat) (j : Nat) (pre tail : List Value) (hh : Mem) : Prop where
  le : j ≤ xs.length
  out : hh r = none
  parts : ∃ post hpre hpost, tail = post ++ rest ∧ Parts hh hpre hpost ∧ OwnS (D.mks (xs.take j) k).1 hpre pre ∧ OwnS (xs.drop j) hpost post
theorem Marking.start {xs : List D} {k : Int} {rest flat : List Value} {r : Nat} {h2 : Mem} (h : h2 r = none) (o : OwnS xs h2 flat) : Marking xs k rest r 0 [] (flat ++ rest) h2 :=
  ⟨by omega, h, flat, Mem.nil, h2, rfl, Parts.nil_left _, ⟨rfl, rfl⟩, by simpa using o⟩
theorem Marking.len {xs : List D} {k : Int} {rest : List Value} {r : Nat} {j es : Nat} {pre tail : List Value} {hh : Mem} (m : Marking xs k rest r j pre tail hh) (hn : ∀ x ∈ xs, x.n = es) : pre.length = j * es := by
  obtain ⟨post, hpre, hpost, rfl, hp, o1, o2⟩ := m.parts
  rw [o1.len, D.mks_n, D.ns_eq (es := es) fun x hx => hn x (List.mem_of_mem_take hx), List.length_take, Nat.min_eq_left m.le]
/-- The next element: what it owns (g), and the rest (m). -/
theorem Marking.next {xs : List D} {k : Int} {rest : List Value} {r : Nat} {j : Nat} {pre tail : List Value} {hh : Mem} (M : Marking xs k rest r j pre tail hh) {x : D} (hx : xs[j]? = some x) :
    ∃ c g m c2, tail = c ++ (c2 ++ rest) ∧ Own x g c ∧ Parts hh g m ∧ m r = none ∧
      (∀ g' c', Apart g' m → g' r = none → Own (x.mk (D.mks (xs.take j) k).2).1 g' c' → Marking xs k rest r (j + 1) (pre ++ c') (c2 ++ rest) (g'.join m)) := by
  obtain ⟨post, hpre, hpost, rfl, hp, o1, o2⟩ := M.parts
  have hlt : j < xs.length := (List.getElem?_eq_some_iff.1 hx).1
  have hdrop : xs.drop j = x :: xs.drop (j + 1) := by
    rw [List.drop_eq_getElem_cons hlt]
    congr 1
    exact (List.getElem?_eq_some_iff.1 hx).2
  rw [hdrop] at o2
  obtain ⟨c, c2, g, g2, rfl, q, u1, u2⟩ := o2
  obtain ⟨m, p1, p2⟩ := hp.assoc q.symm
  have hm : m r = none := by
    cases h : m r with
    | none => rfl
    | some o => have := p2.left r o h; rw [M.out] at this; cases this
  refine ⟨c, g, m, c2, by simp, u1, p2.symm, hm, fun g' c' ha hg ho => ⟨hlt, by rw [Mem.join_get, hg]; exact hm, c2, g'.join hpre, g2, rfl, ?_, ?_, u2⟩⟩
  · have a1 : Apart g' hpre := fun b hb => by
      cases h : hpre b with
      | none => rfl
      | some o => have := ha b hb; rw [p1.left b o h] at this; cases this
    obtain ⟨m2, q1, q2⟩ := (Parts.join ha).assoc p1
    have e := q1.is_join
    subst e
    exact q2
  · rw [D.mks_take hx]
    refine OwnS.append (Parts.symm ?_) o1 (OwnS.last ho)
    refine Parts.join fun b hb => ?_
    cases h : hpre b with
    | none => rfl
    | some o => have := ha b hb; rw [p1.left b o h] at this; cases this
theorem Marking.cnt {xs : List D} {k : Int} {j : Nat} {x : D} (hx : xs[j]? = some x) : (D.mks (xs.take j) k).2 + x.cnt ≤ k + D.cnts xs := by
  have h1 := D.cnts_take xs (j + 1)
  rw [D.mks_cnt]
  rw [List.take_add_one, hx, Option.toList_some, D.cnts_append] at h1
  simp only [D.cnts] at h1
  omega
theorem Marking.last {xs : List D} {k : Int} {rest : List Value} {r : Nat} {pre tail : List Value} {hh : Mem} (M : Marking xs k rest r xs.length pre tail hh) : tail = rest ∧ OwnS (D.mks xs k).1 hh pre := by
  obtain ⟨post, hpre, hpost, rfl, hp, o1, o2⟩ := M.parts
  rw [List.drop_length] at o2
  obtain ⟨rfl, rfl⟩ := o2
  obtain rfl := hp.eq (Parts.nil_right _)
  rw [List.take_length] at o1
  exact ⟨by simp, o1⟩
/-- What a framed call gives back of an element's memory. -/
theorem back_of {g' m H' : Mem} {r : Nat} {o : Obj} (hm : m r = none) (p : Parts H' g' (m.set r o)) : Apart g' m ∧ g' r = none ∧ H' = (g'.join m).set r o := by
  obtain ⟨a1, a2⟩ := Mem.set_apart hm p.apart.symm
  exact ⟨a1.symm, a2, p.eq ((Parts.join a1.symm).set (by rw [Mem.join_get, a2]; exact hm))⟩
theorem Tm.own {t : Tm} {h : Mem} {cs : List Value} (k : Own t.d h cs) : ∃ v, cs = [.int .i64 t.kind, .int .i64 t.num, .string t.name, v] ∧ OwnV (.sl 4 (t.args.map Tm.d)) h v := by
  cases t with
  | mk kd n s l =>
    rw [Tm.d_mk] at k
    obtain ⟨c1, c2, h1, h2, rfl, p, ⟨rfl, rfl⟩, c3, c4, h3, h4, rfl, q, ⟨rfl, rfl⟩, c5, c6, h5, h6, rfl, t, ⟨rfl, rfl⟩, c7, c8, h7, h8, rfl, u, k7, rfl, rfl⟩ := k
    obtain rfl := p.eq (Parts.nil_left _)
    obtain rfl := q.eq (Parts.nil_left _)
    obtain rfl := t.eq (Parts.nil_left _)
    obtain rfl := u.eq (Parts.nil_right _)
    have hl := k7.len
    match c7, hl with
    | [v], _ => exact ⟨v, by simp [Tm.kind, Tm.num, Tm.name], k7⟩
theorem Tm.d_eq (t : Tm) : t.d = .st [.i t.kind, .i t.num, .s t.name, .sl 4 (t.args.map Tm.d)] := by
  cases t; exact Tm.d_mk _ _ _ _
theorem Tm.mk_eq (t : Tm) (k : Int) : t.d.mk k = (.st [.i k, .i (k + 1), .s (mtext (k + 1 + 1)), .sl 4 (D.mks (t.args.map Tm.d) (k + 1 + 1 + 1)).1], (D.mks (t.args.map Tm.d) (k + 1 + 1 + 1)).2) := by
  rw [Tm.d_eq]; simp [D.mk, D.mks]
theorem Tm.cnt_eq (t : Tm) : t.d.cnt = 3 + D.cnts (t.args.map Tm.d) := by
  rw [Tm.d_eq]; simp [D.cnt, D.cnts]; omega
section
variable {μ : Mem}
theorem markTermS_of {l : List Tm} (he : ∀ t ∈ l, ∀ {h : Mem} {v : Value} {k : Int}, OwnV (.sl 4 (t.args.map Tm.d)) h v → 0 ≤ k → k + D.cnts (t.args.map Tm.d) ≤ 9223372036854775807 →
      SpecH Try.prog 61 [v, .int .i64 k] μ h fun r μ' h' => r = .int .i64 (D.mks (t.args.map Tm.d) k).2 ∧ μ' = μ ∧ OwnV (.sl 4 (D.mks (t.args.map Tm.d) k).1) h' v)
    {h : Mem} {v : Value} {k : Int} (ho : OwnV (.sl 4 (l.map Tm.d)) h v) (hk : 0 ≤ k) (hk2 : k + D.cnts (l.map Tm.d) ≤ 9223372036854775807) :
    SpecH Try.prog 61 [v, .int .i64 k] μ h fun r μ' h' => r = .int .i64 (D.mks (l.map Tm.d) k).2 ∧ μ' = μ ∧ OwnV (.sl 4 (D.mks (l.map Tm.d) k).1) h' v := by
  obtain ⟨base, cap, e, hm, hn, ho⟩ := ho
  simp only [List.cons.injEq, and_true] at e
  subst e
  have hm' : (l.map Tm.d).length ≤ 9223372036854775807 := Nat.le_trans hm.max (by decide)
  refine SpecH.mk [] Try.func61 (by kernel_rfl) ?_
  rcases ho with ⟨hnil, rfl⟩ | ⟨r, flat, rest, ty, h2, rfl, hr, rfl, ho⟩
  · rw [hnil]
    refine loop_intro (fun i : Nat => i = 0) (fun i => ⟨[(0, .val (.slice base 0 cap)), (1, .val (.int .i64 k)), (5, .val (.int .i64 i))], [], 0, μ, Mem.nil⟩) (fun i => 0 - i)
      0 rfl (fun i => ⟨rfl, rfl⟩) ⟨⟨rfl, rfl, rfl, trivial⟩, trivial, rfl, rfl⟩ ?_
    rintro i rfl
    refine ifd (fun h => by omega) (fun h => ret_plain ⟨rfl, rfl, base, cap, rfl, ⟨Nat.zero_le _, Nat.zero_le _⟩, by simp [D.mks], .inl ⟨rfl, rfl⟩⟩)
  · generalize hxs : l.map Tm.d = xs at *
    refine loop_intro (fun p : Nat × List Value × List Value × Mem => Marking xs k rest r p.1 p.2.1 p.2.2.1 p.2.2.2)
      (fun (i, pre, tail, hh) => ⟨[(0, .val (.slice (some ⟨r, 0, none⟩) xs.length cap)), (1, .val (.int .i64 (D.mks (xs.take i) k).2)), (5, .val (.int .i64 i))], [], 0, μ, hh.set r (.cells (List.toArray (pre ++ tail)) ty (0, 0))⟩) (fun p => xs.length - p.1)
      (0, [], flat ++ rest, h2) (Marking.start hr ho) (fun (_, _, _, _) => ⟨rfl, rfl⟩) ⟨⟨rfl, rfl, rfl, trivial⟩, trivial, rfl, rfl⟩ ?_
    rintro ⟨i, pre, tail, hh⟩ M
    dsimp only at M
    have hi := M.le
    have hge := D.mks_cnt (xs.take i) k
    refine ifd (fun h => ?_) (fun h => ?_)
    · obtain ⟨t, ht⟩ := at_some (l := l) (i := i) (by rw [← hxs] at h; simp at h; omega)
      have hx : xs[i]? = some t.d := by rw [← hxs]; simp [ht]
      obtain ⟨c, g, m, c2, rfl, hown, hp, hmr, back⟩ := M.next hx
      obtain ⟨v, rfl, hv⟩ := Tm.own hown
      obtain ⟨b2, cap2, rfl⟩ := OwnV.slice hv
      have hlen := M.len hn
      have hcnt := Marking.cnt (k := k) hx
      rw [Tm.cnt_eq] at hcnt
      refine ptr_intro ⟨r, 0, none⟩ rfl (by omega) (by omega) ?_
      refine sto_at (j := 0) (by simp [Addr.add_lit', hlen]) (by simp) ?_
      refine num64 (by omega) (by omega) ?_
      refine ptr_intro ⟨r, 0, none⟩ rfl (by omega) (by omega) ?_
      refine sto_at (j := 1) (by simp [Addr.add_lit', hlen]) (by simp) ?_
      refine num64 (by omega) (by omega) ?_
      refine call_gives (markText_spec _ (by omega)) ?_
      refine ptr_intro ⟨r, 0, none⟩ rfl (by omega) (by omega) ?_
      refine sto_at (j := 2) (by simp [Addr.add_lit', hlen]) (by simp) ?_
      refine num64 (by omega) (by omega) ?_
      refine ptr_intro ⟨r, 0, none⟩ rfl (by omega) (by omega) ?_
      refine own_at (j := 3) (by simp [Addr.add_lit', hlen]) rfl ?_
      refine call_own (SpecH.frame (hp.set M.out) (he t (mem_at ht) hv (by omega) (by omega))) fun v μ' H' hle hap hR => ?_
      obtain ⟨h', ⟨rfl, rfl, ho'⟩, hp'⟩ := hR
      obtain ⟨a1, a2, rfl⟩ := back_of hmr hp'
      have hmk := D.mks_take hx k
      have hmk2 := Tm.mk_eq t (D.mks (xs.take i) k).2
      refine num64 (by omega) (by omega) ⟨(i + 1, pre ++ [.int .i64 (D.mks (xs.take i) k).2, .int .i64 ((D.mks (xs.take i) k).2 + 1), .string (mtext ((D.mks (xs.take i) k).2 + 1 + 1)), .slice b2 (t.args.map Tm.d).length cap2], c2 ++ rest, h'.join m), back _ _ a1 a2 ?_, by dsimp only; omega, ⟨⟨rfl, ?_, rfl, trivial⟩, trivial, rfl, ?_⟩⟩
      · rw [hmk2]
        exact OwnS.int (OwnS.int (OwnS.str (OwnS.last ho')))
      · rw [hmk, hmk2]
        rfl
      · simp
    · have hi' : i = xs.length := by omega
      subst hi'
      obtain ⟨rfl, o1⟩ := M.last
      refine ret_plain ⟨by rw [List.take_length], rfl, some ⟨r, 0, none⟩, cap, by rw [D.mks_length], by rw [D.mks_length]; exact hm, D.mks_size k hn, .inr ⟨r, pre, tail, ty, hh, rfl, M.out, rfl, o1⟩⟩
theorem markTermS_spec {l : List Tm} {h : Mem} {v : Value} {k : Int} (ho : OwnV (.sl 4 (l.map Tm.d)) h v) (hk : 0 ≤ k) (hk2 : k + D.cnts (l.map Tm.d) ≤ 9223372036854775807) :
    SpecH Try.prog 61 [v, .int .i64 k] μ h fun r μ' h' => r = .int .i64 (D.mks (l.map Tm.d) k).2 ∧ μ' = μ ∧ OwnV (.sl 4 (D.mks (l.map Tm.d) k).1) h' v :=
  Tm.ind (p := fun t => ∀ {h : Mem} {v : Value} {k : Int}, OwnV (.sl 4 (t.args.map Tm.d)) h v → 0 ≤ k → k + D.cnts (t.args.map Tm.d) ≤ 9223372036854775807 →
      SpecH Try.prog 61 [v, .int .i64 k] μ h fun r μ' h' => r = .int .i64 (D.mks (t.args.map Tm.d) k).2 ∧ μ' = μ ∧ OwnV (.sl 4 (D.mks (t.args.map Tm.d) k).1) h' v)
    (fun _ _ _ _ ih _ _ _ => markTermS_of fun t ht _ _ _ => ih t ht) (.mk 0 0 ⟨#[]⟩ l) ho hk hk2
theorem heldTermS_of {l : List Tm} (he : ∀ t ∈ l, ∀ {v : Value} {k : Int}, RepV μ (.sl 4 (D.mks (t.args.map Tm.d) k).1) v → 0 ≤ k → k + D.cnts (t.args.map Tm.d) ≤ 9223372036854775807 →
      Gives Try.prog 63 [v, .int .i64 k] μ (.int .i64 (D.mks (t.args.map Tm.d) k).2))
    {v : Value} {k : Int} (ho : RepV μ (.sl 4 (D.mks (l.map Tm.d) k).1) v) (hk : 0 ≤ k) (hk2 : k + D.cnts (l.map Tm.d) ≤ 9223372036854775807) :
    Gives Try.prog 63 [v, .int .i64 k] μ (.int .i64 (D.mks (l.map Tm.d) k).2) := by
  obtain ⟨base, cap, rfl, hsl⟩ := Rep.sl ho
  have hm' := Nat.le_trans hsl.max (show maxLen ≤ 9223372036854775807 by decide)
  rw [D.mks_length] at hm' hsl ⊢
  refine Spec.mk Try.func63 (by kernel_rfl) ?_
  generalize hxs : l.map Tm.d = xs at *
  refine loop_intro (fun i : Nat => i ≤ xs.length) (fun i => ⟨[(0, .val (.slice base xs.length cap)), (1, .val (.int .i64 (D.mks (xs.take i) k).2)), (5, .val (.int .i64 i))], [], 0, μ, Mem.nil⟩) (fun i => xs.length - i)
    0 (by simp) (fun i => ⟨rfl, rfl⟩) ⟨⟨rfl, rfl, rfl, trivial⟩, trivial, rfl, rfl⟩ ?_
  intro i hi
  have hge := D.mks_cnt (xs.take i) k
  refine ifd (fun h => ?_) (fun h => ?_)
  · obtain ⟨t, ht⟩ := at_some (l := l) (i := i) (by rw [← hxs] at h; simp at h; omega)
    have hx : xs[i]? = some t.d := by rw [← hxs]; simp [ht]
    have hcnt := Marking.cnt (k := k) hx
    rw [Tm.cnt_eq] at hcnt
    obtain ⟨ad, cs, hel, hcs⟩ := hsl.get i _ (D.mks_get hx k)
    have hmk := D.mks_take hx k
    have hmk2 := Tm.mk_eq t (D.mks (xs.take i) k).2
    rw [hmk2] at hcs
    obtain ⟨_, _, rfl, rfl, _, _, rfl, rfl, _, _, rfl, rfl, c7, _, rfl, h7, rfl⟩ := hcs
    have hl := Rep.len _ _ h7
    match c7, hl with
    | [v], _ =>
      have h7' := h7
      obtain ⟨b2, cap2, rfl, _⟩ := h7'.sl
      have hge2 := D.mks_cnt (t.args.map Tm.d) ((D.mks (xs.take i) k).2 + 1 + 1 + 1)
      refine elem_intro hel (ifnd (fun h => absurd rfl h) fun _ => ?_)
      refine num64 (by omega) (by omega) ?_
      refine elem_intro hel (ifnd (fun h => absurd rfl h) fun _ => ?_)
      refine num64 (by omega) (by omega) ?_
      refine elem_intro hel ?_
      refine call_gives (markText_spec _ (by omega)) ?_
      refine ifnd (fun h => absurd rfl h) fun _ => ?_
      refine num64 (by omega) (by omega) ?_
      refine elem_intro hel ?_
      refine call_gives (he t (mem_at ht) h7 (by omega) (by omega)) ?_
      refine ifd (fun h => absurd h (by omega)) (fun _ => ?_)
      refine num64 (by omega) (by omega) ?_
      exact ⟨i + 1, by omega, by omega, ⟨⟨rfl, by rw [hmk, hmk2]; rfl, rfl, trivial⟩, trivial, rfl, rfl⟩⟩
  · have hi' : i = xs.length := by omega
    subst hi'
    rw [List.take_length]
    exact ret_gives rfl rfl
theorem heldTermS_spec {l : List Tm} {v : Value} {k : Int} (ho : RepV μ (.sl 4 (D.mks (l.map Tm.d) k).1) v) (hk : 0 ≤ k) (hk2 : k + D.cnts (l.map Tm.d) ≤ 9223372036854775807) :
    Gives Try.prog 63 [v, .int .i64 k] μ (.int .i64 (D.mks (l.map Tm.d) k).2) :=
  Tm.ind (p := fun t => ∀ {v : Value} {k : Int}, RepV μ (.sl 4 (D.mks (t.args.map Tm.d) k).1) v → 0 ≤ k → k + D.cnts (t.args.map Tm.d) ≤ 9223372036854775807 →
      Gives Try.prog 63 [v, .int .i64 k] μ (.int .i64 (D.mks (t.args.map Tm.d) k).2))
    (fun _ _ _ _ ih _ _ => heldTermS_of fun t ht _ _ => ih t ht) (.mk 0 0 ⟨#[]⟩ l) ho hk hk2
theorem Tm.mt_eq (t : Tm) (k : Int) : t.d.mt k = (.st [.i t.kind, .i t.num, .s t.name, .sl 4 (D.mks (t.args.map Tm.d) k).1], (D.mks (t.args.map Tm.d) k).2) := by
  rw [Tm.d_eq]; simp [D.mt, D.mts]
theorem markTerm_spec (t : Tm) {h : Mem} {v : Value} {k : Int} (ho : OwnV t.d h v) (hk : 0 ≤ k) (hk2 : k + D.cnts (t.args.map Tm.d) ≤ 9223372036854775807) :
    SpecH Try.prog 31 [v, .int .i64 k] μ h fun r μ' h' => r = .int .i64 (t.d.mt k).2 ∧ μ' = μ ∧ OwnV (t.d.mt k).1 h' v := by
  have ho2 : ∃ cs, v = .agg (List.toArray cs) ∧ Own t.d h cs := by rw [Tm.d_eq] at ho ⊢; exact ho
  obtain ⟨cs, rfl, ho2⟩ := ho2
  obtain ⟨v, rfl, hv⟩ := Tm.own ho2
  obtain ⟨b2, cap2, rfl⟩ := OwnV.slice hv
  refine SpecH.mk [] Try.func31 (by kernel_rfl) ?_
  intro r
  refine call_own (markTermS_spec hv hk hk2) fun v μ' h' hle hap hR => ?_
  obtain ⟨rfl, rfl, ho⟩ := hR
  rw [Tm.mt_eq]
  exact ret_plain ⟨rfl, rfl, _, rfl, OwnS.int (OwnS.int (OwnS.str (OwnS.last ho)))⟩
theorem heldTerm_spec (t : Tm) {v : Value} {k : Int} (ho : RepV μ (t.d.mt k).1 v) (hk : 0 ≤ k) (hk2 : k + D.cnts (t.args.map Tm.d) ≤ 9223372036854775807) :
    Gives Try.prog 33 [v, .int .i64 k] μ (.int .i64 (t.d.mt k).2) := by
  rw [Tm.mt_eq] at ho ⊢
  obtain ⟨_, rfl, _, _, rfl, rfl, _, _, rfl, rfl, _, _, rfl, rfl, c7, _, rfl, h7, rfl⟩ := ho
  have hl := Rep.len _ _ h7
  match c7, hl with
  | [v], _ =>
    have h7' := h7
    obtain ⟨b2, cap2, rfl, _⟩ := h7'.sl
    refine Spec.mk Try.func33 (by kernel_rfl) ?_
    intro r
    refine call_gives (heldTermS_spec h7 hk hk2) ?_
    have := D.mks_cnt (t.args.map Tm.d) k
    refine ifd (fun h => ?_) (fun h => ret_gives rfl rfl)
    omega
/-! ### Bindings -/
theorem Bd.own {b : Bd} {h : Mem} {cs : List Value} (k : Own b.d h cs) : ∃ v, cs = [.int .i64 b.var, .int .i64 b.to.kind, .int .i64 b.to.num, .string b.to.name, v] ∧ OwnV (.sl 4 (b.to.args.map Tm.d)) h v := by
  obtain ⟨c1, c2, h1, h2, rfl, p, ⟨rfl, rfl⟩, c3, c4, h3, h4, rfl, q, k3, rfl, rfl⟩ := k
  obtain rfl := p.eq (Parts.nil_left _)
  obtain rfl := q.eq (Parts.nil_right _)
  obtain ⟨v, rfl, hv⟩ := Tm.own k3
  exact ⟨v, by simp, hv⟩
theorem Bd.mk_eq (b : Bd) (k : Int) : b.d.mk k = (.st [.i k, .st [.i (k + 1), .i (k + 1 + 1), .s (mtext (k + 1 + 1 + 1)), .sl 4 (D.mks (b.to.args.map Tm.d) (k + 1 + 1 + 1 + 1)).1]], (D.mks (b.to.args.map Tm.d) (k + 1 + 1 + 1 + 1)).2) := by
  simp only [Bd.d, D.mk, D.mks, Tm.mk_eq]
theorem Bd.cnt_eq (b : Bd) : b.d.cnt = 4 + D.cnts (b.to.args.map Tm.d) := by
  simp only [Bd.d, D.cnt, D.cnts, Tm.cnt_eq]; omega
theorem markBindingS_spec {l : List Bd} {h : Mem} {v : Value} {k : Int} (ho : OwnV (.sl 5 (l.map Bd.d)) h v) (hk : 0 ≤ k) (hk2 : k + D.cnts (l.map Bd.d) ≤ 9223372036854775807) :
    SpecH Try.prog 32 [v, .int .i64 k] μ h fun r μ' h' => r = .int .i64 (D.mks (l.map Bd.d) k).2 ∧ μ' = μ ∧ OwnV (.sl 5 (D.mks (l.map Bd.d) k).1) h' v := by
  obtain ⟨base, cap, e, hm, hn, ho⟩ := ho
  simp only [List.cons.injEq, and_true] at e
  subst e
  have hm' : (l.map Bd.d).length ≤ 9223372036854775807 := Nat.le_trans hm.max (by decide)
  refine SpecH.mk [] Try.func32 (by kernel_rfl) ?_
  rcases ho with ⟨hnil, rfl⟩ | ⟨r, flat, rest, ty, h2, rfl, hr, rfl, ho⟩
  · rw [hnil]
    refine loop_intro (fun i : Nat => i = 0) (fun i => ⟨[(0, .val (.slice base 0 cap)), (1, .val (.int .i64 k)), (5, .val (.int .i64 i))], [], 0, μ, Mem.nil⟩) (fun i => 0 - i)
      0 rfl (fun i => ⟨rfl, rfl⟩) ⟨⟨rfl, rfl, rfl, trivial⟩, trivial, rfl, rfl⟩ ?_
    rintro i rfl
    refine ifd (fun h => by omega) (fun h => ret_plain ⟨rfl, rfl, base, cap, rfl, ⟨Nat.zero_le _, Nat.zero_le _⟩, by simp [D.mks], .inl ⟨rfl, rfl⟩⟩)
  · generalize hxs : l.map Bd.d = xs at *
    refine loop_intro (fun p : Nat × List Value × List Value × Mem => Marking xs k rest r p.1 p.2.1 p.2.2.1 p.2.2.2)
      (fun (i, pre, tail, hh) => ⟨[(0, .val (.slice (some ⟨r, 0, none⟩) xs.length cap)), (1, .val (.int .i64 (D.mks (xs.take i) k).2)), (5, .val (.int .i64 i))], [], 0, μ, hh.set r (.cells (List.toArray (pre ++ tail)) ty (0, 0))⟩) (fun p => xs.length - p.1)
      (0, [], flat ++ rest, h2) (Marking.start hr ho) (fun (_, _, _, _) => ⟨rfl, rfl⟩) ⟨⟨rfl, rfl, rfl, trivial⟩, trivial, rfl, rfl⟩ ?_
    rintro ⟨i, pre, tail, hh⟩ M
    dsimp only at M
    have hi := M.le
    have hge := D.mks_cnt (xs.take i) k
    refine ifd (fun h => ?_) (fun h => ?_)
    · obtain ⟨t, ht⟩ := at_some (l := l) (i := i) (by rw [← hxs] at h; simp at h; omega)
      have hx : xs[i]? = some t.d := by rw [← hxs]; simp [ht]
      obtain ⟨c, g, m, c2, rfl, hown, hp, hmr, back⟩ := M.next hx
      obtain ⟨v, rfl, hv⟩ := Bd.own hown
      obtain ⟨b2, cap2, rfl⟩ := OwnV.slice hv
      have hlen := M.len hn
      have hcnt := Marking.cnt (k := k) hx
      rw [Bd.cnt_eq] at hcnt
      refine ptr_intro ⟨r, 0, none⟩ rfl (by omega) (by omega) ?_
      refine sto_at (j := 0) (by simp [Addr.add_lit', hlen]) (by simp) ?_
      refine num64 (by omega) (by omega) ?_
      refine ptr_intro ⟨r, 0, none⟩ rfl (by omega) (by omega) ?_
      refine sto_at (j := 1) (by simp [Addr.add_lit', hlen]) (by simp) ?_
      refine num64 (by omega) (by omega) ?_
      refine ptr_intro ⟨r, 0, none⟩ rfl (by omega) (by omega) ?_
      refine sto_at (j := 2) (by simp [Addr.add_lit', hlen]) (by simp) ?_
      refine num64 (by omega) (by omega) ?_
      refine call_gives (markText_spec _ (by omega)) ?_
      refine ptr_intro ⟨r, 0, none⟩ rfl (by omega) (by omega) ?_
      refine sto_at (j := 3) (by simp [Addr.add_lit', hlen]) (by simp) ?_
      refine num64 (by omega) (by omega) ?_
      refine ptr_intro ⟨r, 0, none⟩ rfl (by omega) (by omega) ?_
      refine own_at (j := 4) (by simp [Addr.add_lit', hlen]) rfl ?_
      refine call_own (SpecH.frame (hp.set M.out) (markTermS_spec hv (by omega) (by omega))) fun v μ' H' hle hap hR => ?_
      obtain ⟨h', ⟨rfl, rfl, ho'⟩, hp'⟩ := hR
      obtain ⟨a1, a2, rfl⟩ := back_of hmr hp'
      have hmk := D.mks_take hx k
      have hmk2 := Bd.mk_eq t (D.mks (xs.take i) k).2
      refine num64 (by omega) (by omega) ⟨(i + 1, pre ++ [.int .i64 (D.mks (xs.take i) k).2, .int .i64 ((D.mks (xs.take i) k).2 + 1), .int .i64 ((D.mks (xs.take i) k).2 + 1 + 1), .string (mtext ((D.mks (xs.take i) k).2 + 1 + 1 + 1)), .slice b2 (t.to.args.map Tm.d).length cap2], c2 ++ rest, h'.join m), back _ _ a1 a2 ?_, by dsimp only; omega, ⟨⟨rfl, ?_, rfl, trivial⟩, trivial, rfl, ?_⟩⟩
      · rw [hmk2]
        exact OwnS.int (OwnS.last (OwnS.int (OwnS.int (OwnS.str (OwnS.last ho')))))
      · rw [hmk, hmk2]
        rfl
      · simp
    · have hi' : i = xs.length := by omega
      subst hi'
      obtain ⟨rfl, o1⟩ := M.last
      refine ret_plain ⟨by rw [List.take_length], rfl, some ⟨r, 0, none⟩, cap, by rw [D.mks_length], by rw [D.mks_length]; exact hm, D.mks_size k hn, .inr ⟨r, pre, tail, ty, hh, rfl, M.out, rfl, o1⟩⟩
end
end Go.Vx
