/- Texts of the proof, part 5: Wd Sk Wb We Sl Wk Sm Sp Sq Sr Ss St. -/
import Derived.Test.YtepgghefbcklhaaM4
import Derived.Test.YtepgghefbcklhaaM3
/- Contracts: which substitutions are fine. -/
namespace Go.Vx
open Go.Proofs Classical
/-! ### Plain -/
def bndOk (bs : List B) (b : B) : Prop := ¬ (b.to.tm.kind = 1 ∧ b.var ≤ b.to.tm.num) ∧ ∀ n ∈ b.to.vars, sub bs n = none
def substOk (l : List Bd) : Prop := valsOk l ∧ ∀ b ∈ l.map Bd.b, bndOk (l.map Bd.b) b
theorem B.bd_b (b : B) : b.bd.b = b := by
  cases b; simp [B.bd, Bd.b, T.toT_tm]
theorem B.map_b (bs : List B) : (bs.map B.bd).map Bd.b = bs := by
  rw [List.map_map]
  conv => rhs; rw [← List.map_id bs]
  exact List.map_congr_left fun b _ => B.bd_b b
/-- A fine list of bindings, as terms. -/
structure Vals (bs : List B) : Prop where
  ok : valsOk (bs.map B.bd)
theorem Vals.len {bs : List B} (h : Vals bs) : bs.length ≤ 400 := by have := h.ok.1; simpa using this
theorem Vals.srt {bs : List B} (h : Vals bs) : Srt bs := by have := h.ok.srt; rwa [B.map_b] at this
theorem Vals.tok {bs : List B} (h : Vals bs) : ∀ b ∈ bs, b.to.ok := by have := h.ok.lift.2; rwa [B.map_b] at this
theorem Vals.var {bs : List B} (h : Vals bs) : ∀ b ∈ bs, 0 ≤ b.var ∧ b.var ≤ 100000 := fun b hb => by
  obtain ⟨i, hi⟩ := List.mem_iff_getElem?.1 hb
  exact (h.ok.2 i b.bd (by simp [hi])).1
theorem valsOk.vals {l : List Bd} (h : valsOk l) : ∃ bs : List B, l = bs.map B.bd ∧ Vals bs := ⟨l.map Bd.b, h.lift.1.symm, ⟨by rw [h.lift.1]; exact h⟩⟩
structure Subst (bs : List B) : Prop where
  vals : Vals bs
  bnd : ∀ b ∈ bs, bndOk bs b
theorem substOk_iff (bs : List B) : substOk (bs.map B.bd) ↔ Subst bs := by
  unfold substOk
  rw [B.map_b]
  exact ⟨fun h => ⟨⟨h.1⟩, h.2⟩, fun h => ⟨h.1.1, h.2⟩⟩
theorem substOk.subst {l : List Bd} (h : substOk l) : ∃ bs : List B, l = bs.map B.bd ∧ Subst bs := by
  obtain ⟨bs, rfl, _⟩ := h.1.vals
  exact ⟨bs, rfl, (substOk_iff bs).1 h⟩
section
variable {μ : Mem}
theorem spec_SubstOk_spec {l : List Bd} {base : Option Addr} {cap : Nat} (hsl : Sl μ 5 base l.length (l.map Bd.d)) (hw : D.wds (l.map Bd.d)) : Gives Try.prog 68 [.slice base l.length cap] μ (.bool (decide (substOk l))) := by
  refine Spec.forget (Spec.mk Try.func68 (by kernel_rfl) ?_)
  refine call_gives (l04Values_spec hsl hw) ?_
  refine ifnd (fun h => ret_plain (isF fun k => h k.1)) (fun hv => ?_)
  obtain ⟨bs, rfl, hbs⟩ := hv.vals
  rw [List.length_map] at hsl ⊢
  have hn := hbs.len
  refine loop_intro (fun p : Nat × Mem => p.1 ≤ bs.length ∧ μ.Le p.2 ∧ ∀ (j : Nat) b, j < p.1 → bs[j]? = some b → bndOk bs b)
    (fun (i, μ') => ⟨[(0, .val (.slice base bs.length cap)), (12, .val (.slice base bs.length cap)), (13, .val (.int .i64 bs.length)), (14, .val (.int .i64 i))], [], 0, μ', Mem.nil⟩) (fun p => bs.length - p.1)
    (0, μ) ⟨by simp, Mem.Le.refl μ, fun j b hj => by simp at hj⟩ (fun (_, _) => ⟨rfl, rfl⟩) ⟨⟨rfl, rfl, rfl, rfl, trivial⟩, trivial, rfl, rfl⟩ ?_
  rintro ⟨i, μ'⟩ ⟨hi, hle, hall⟩
  dsimp only at hi hle hall
  refine ifd (fun h => ?_) (fun h => ?_)
  · obtain ⟨b, hb⟩ := at_some (l := bs) (i := i) (by omega)
    obtain ⟨ad, p, hel, hto⟩ := B.elem (hsl.mono hle) hb
    have hsz := (hbs.tok b (mem_at hb)).2
    have hvs := T.vars_size b.to
    have bad : ¬ bndOk bs b → Value.bool false = .bool (decide (substOk (bs.map B.bd))) := fun k => isF fun hs => k (((substOk_iff bs).1 hs).bnd b (mem_at hb))
    refine elem_intro hel ?_
    intro r
    refine ifd (fun h1 => ?_) (fun h1 => ?_)
    · refine ifd (fun h2 => ret_plain (bad fun k => k.1 ⟨h1, h2⟩)) (fun h2 => ?_)
      have hk : ¬ (b.to.tm.kind = 1 ∧ b.var ≤ b.to.tm.num) := fun k => h2 k.2
      refine call_plain (l02Vars_spec b.to (l := []) hto (Rep.nilSl 1) (by simp; omega)) fun v μ2 hle2 hR => ?_
      obtain ⟨rs, hrs, hmem, hlen⟩ := hR
      obtain ⟨vb, vc, rfl, hvs⟩ := Rep.sl hrs
      rw [List.length_map] at hvs hrs ⊢
      have hsl2 := (hsl.mono hle).mono hle2
      refine loop_intro (fun k : Nat => k ≤ rs.length ∧ ∀ (j : Nat) n, j < k → rs[j]? = some n → sub bs n = none)
        (fun k => ⟨[(0, .val (.slice base bs.length cap)), (12, .val (.slice base bs.length cap)), (13, .val (.int .i64 bs.length)), (14, .val (.int .i64 i)), (32, .val (.slice vb rs.length vc)), (33, .val (.int .i64 rs.length)), (34, .val (.int .i64 k))], [], 0, μ2, Mem.nil⟩) (fun k => rs.length - k)
        0 ⟨by omega, fun j n hj => by omega⟩ (fun k => ⟨rfl, rfl⟩) ⟨⟨rfl, rfl, rfl, rfl, rfl, rfl, rfl, trivial⟩, trivial, rfl, rfl⟩ ?_
      rintro k ⟨hkl, hz⟩
      have hrl : rs.length ≤ 5000 := by simp at hlen; omega
      refine ifd (fun h5 => ?_) (fun h5 => ?_)
      · obtain ⟨n, hn'⟩ := at_some (l := rs) (i := k) (by omega)
        obtain ⟨ad2, hel2⟩ := Ints.elem hvs hn'
        refine elem_intro hel2 ?_
        refine call_plain (l04Get_spec hsl2) fun v' μ3 hle3 hR3 => ?_
        obtain ⟨hR3, e3⟩ := hR3
        obtain rfl := e3.symm
        cases hs : sub bs n with
        | some y =>
          rw [hs] at hR3
          obtain ⟨tv, rfl, htv⟩ := hR3
          obtain ⟨q, rfl⟩ := Tm.invV htv
          intro r7
          refine if_intro (fun _ => ret_plain (bad fun k => ?_)) (fun h => nomatch h)
          have := k.2 n (((hmem n).1 (mem_at hn')).elim id (fun h => absurd h (by simp)))
          rw [hs] at this; cases this
        | none =>
          rw [hs] at hR3
          obtain rfl := hR3
          intro r7
          refine if_intro (fun h => nomatch h) (fun _ => ?_)
          refine num64 (by omega) (by omega) ⟨k + 1, ⟨by omega, fun j m hj hm => ?_⟩, by omega, ⟨⟨rfl, rfl, rfl, rfl, rfl, rfl, rfl, trivial⟩, trivial, rfl, rfl⟩⟩
          rcases Nat.lt_or_ge j k with h6 | h6
          · exact hz j m h6 hm
          · obtain rfl : j = k := by omega
            rw [hn'] at hm; cases hm; exact hs
      · obtain rfl : k = rs.length := by omega
        refine num64 (by omega) (by omega) ⟨(i + 1, μ2), ⟨by dsimp only; omega, hle.trans hle2, fun j c hj hc => ?_⟩, by dsimp only; omega, ⟨⟨rfl, rfl, rfl, rfl, trivial⟩, trivial, rfl, rfl⟩⟩
        dsimp only at hj
        rcases Nat.lt_or_ge j i with h6 | h6
        · exact hall j c h6 hc
        · obtain rfl : j = i := by omega
          rw [hb] at hc; cases hc
          refine ⟨hk, fun n hnv => ?_⟩
          obtain ⟨m, hm⟩ := List.mem_iff_getElem?.1 ((hmem n).2 (.inl hnv))
          exact hz m n (List.getElem?_eq_some_iff.1 hm).1 hm
    · have hk : ¬ (b.to.tm.kind = 1 ∧ b.var ≤ b.to.tm.num) := fun k => h1 k.1
      refine call_plain (l02Vars_spec b.to (l := []) hto (Rep.nilSl 1) (by simp; omega)) fun v μ2 hle2 hR => ?_
      obtain ⟨rs, hrs, hmem, hlen⟩ := hR
      obtain ⟨vb, vc, rfl, hvs⟩ := Rep.sl hrs
      rw [List.length_map] at hvs hrs ⊢
      have hsl2 := (hsl.mono hle).mono hle2
      refine loop_intro (fun k : Nat => k ≤ rs.length ∧ ∀ (j : Nat) n, j < k → rs[j]? = some n → sub bs n = none)
        (fun k => ⟨[(0, .val (.slice base bs.length cap)), (12, .val (.slice base bs.length cap)), (13, .val (.int .i64 bs.length)), (14, .val (.int .i64 i)), (32, .val (.slice vb rs.length vc)), (33, .val (.int .i64 rs.length)), (34, .val (.int .i64 k))], [], 0, μ2, Mem.nil⟩) (fun k => rs.length - k)
        0 ⟨by omega, fun j n hj => by omega⟩ (fun k => ⟨rfl, rfl⟩) ⟨⟨rfl, rfl, rfl, rfl, rfl, rfl, rfl, trivial⟩, trivial, rfl, rfl⟩ ?_
      rintro k ⟨hkl, hz⟩
      have hrl : rs.length ≤ 5000 := by simp at hlen; omega
      refine ifd (fun h5 => ?_) (fun h5 => ?_)
      · obtain ⟨n, hn'⟩ := at_some (l := rs) (i := k) (by omega)
        obtain ⟨ad2, hel2⟩ := Ints.elem hvs hn'
        refine elem_intro hel2 ?_
        refine call_plain (l04Get_spec hsl2) fun v' μ3 hle3 hR3 => ?_
        obtain ⟨hR3, e3⟩ := hR3
        obtain rfl := e3.symm
        cases hs : sub bs n with
        | some y =>
          rw [hs] at hR3
          obtain ⟨tv, rfl, htv⟩ := hR3
          obtain ⟨q, rfl⟩ := Tm.invV htv
          intro r7
          refine if_intro (fun _ => ret_plain (bad fun k => ?_)) (fun h => nomatch h)
          have := k.2 n (((hmem n).1 (mem_at hn')).elim id (fun h => absurd h (by simp)))
          rw [hs] at this; cases this
        | none =>
          rw [hs] at hR3
          obtain rfl := hR3
          intro r7
          refine if_intro (fun h => nomatch h) (fun _ => ?_)
          refine num64 (by omega) (by omega) ⟨k + 1, ⟨by omega, fun j m hj hm => ?_⟩, by omega, ⟨⟨rfl, rfl, rfl, rfl, rfl, rfl, rfl, trivial⟩, trivial, rfl, rfl⟩⟩
          rcases Nat.lt_or_ge j k with h6 | h6
          · exact hz j m h6 hm
          · obtain rfl : j = k := by omega
            rw [hn'] at hm; cases hm; exact hs
      · obtain rfl : k = rs.length := by omega
        refine num64 (by omega) (by omega) ⟨(i + 1, μ2), ⟨by dsimp only; omega, hle.trans hle2, fun j c hj hc => ?_⟩, by dsimp only; omega, ⟨⟨rfl, rfl, rfl, rfl, trivial⟩, trivial, rfl, rfl⟩⟩
        dsimp only at hj
        rcases Nat.lt_or_ge j i with h6 | h6
        · exact hall j c h6 hc
        · obtain rfl : j = i := by omega
          rw [hb] at hc; cases hc
          refine ⟨hk, fun n hnv => ?_⟩
          obtain ⟨m, hm⟩ := List.mem_iff_getElem?.1 ((hmem n).2 (.inl hnv))
          exact hz m n (List.getElem?_eq_some_iff.1 hm).1 hm
  · obtain rfl : i = bs.length := by omega
    exact ret_plain (isT ((substOk_iff bs).2 ⟨hbs, fun b hb => by
      obtain ⟨j, hj⟩ := List.mem_iff_getElem?.1 hb
      exact hall j b (List.getElem?_eq_some_iff.1 hj).1 hj⟩))
/-- A cell of one's own beside other memory. -/
def boolOn (H : Mem) (r : Nat) (b : Bool) : Mem := H.set r (.cells #[.bool b] 4 (0, 0))
noncomputable def unbound (bs : List B) (f : Bool) (n : Int) : Bool := if sub bs n = none then f else false
theorem SubstOk1_spec {bs : List B} {base : Option Addr} {cap : Nat} {H : Mem} {r1 : Nat} {t1 : TypeId} (r : Nat) (b : Bool) (n : Int) (hs : Srt bs) (hlen : bs.length ≤ 1000000000) (hsl : Sl μ 5 base bs.length ((bs.map B.bd).map Bd.d)) (h1 : μ r1 = some (.cells #[.slice base bs.length cap] t1 (0, 0))) :
    SpecH Try.prog 129 [.int .i64 n, .pointer (some ⟨r1, 0, none⟩), .pointer (some ⟨r, 0, none⟩)] μ (boolOn H r b) fun v μ' h' => v = .tuple #[] ∧ μ' = μ ∧ h' = boolOn H r (unbound bs b n) := by
  refine SpecH.mk [] Try.func129 (by kernel_rfl) ?_
  refine ext_intro [.slice base bs.length cap] rfl (box_at h1) ?_
  refine call_plain (find_spec hs hlen hsl) fun v μ2 hle2 hR => ?_
  obtain ⟨hR, e2⟩ := hR
  obtain rfl := e2.symm
  rcases hR with ⟨i, c, rfl, hc, hn⟩ | ⟨rfl, hno⟩
  · refine ifd (fun _ => ?_) (fun h => absurd h (by omega))
    refine sto_intro (h := boolOn H r b) (a := ⟨r, 0, none⟩) [.bool b] 4 (set_self _ _ _) rfl ?_ ?_
    · exact Nat.le_refl _
    have e : sub bs n ≠ none := by rw [sub_some hs hc hn]; exact fun h => nomatch h
    exact ret_plain ⟨rfl, rfl, by rw [unbound, if_neg e]; exact Mem.set_set _ _ _ _⟩
  · refine ifd (fun h => absurd h (by omega)) (fun _ => ?_)
    exact ret_plain ⟨rfl, rfl, by rw [unbound, if_pos (sub_none hno)]⟩
theorem unbound_all (bs : List B) : ∀ (l : List Int) (f : Bool), l.foldl (unbound bs) f = (f && decide (∀ n ∈ l, sub bs n = none))
  | [], f => by simp
  | n :: l, f => by
    rw [List.foldl_cons, unbound_all bs l, unbound]
    by_cases h : sub bs n = none <;> simp [h]
theorem impl_SubstOk_spec {l : List Bd} {base : Option Addr} {cap : Nat} (hsl : Sl μ 5 base l.length (l.map Bd.d)) : Gives Try.prog 61 [.slice base l.length cap] μ (.bool (decide (substOk l))) := by
  refine Spec.forget (Spec.mkO [5] Try.func61 (by kernel_rfl) ?_)
  intro r1
  refine call_frz [0] ?_
  intro μ1 hle1 hno1 hat1
  refine call_go (impl_ValuesOk_spec (hsl.mono hle1)) fun v μ2 hle2 hR => ?_
  obtain ⟨rfl, e2⟩ := hR
  obtain rfl := e2.symm
  refine ifnd (fun h => ret_plain (isF fun k => h k.1)) (fun hv => ?_)
  obtain ⟨bs, rfl, hbs⟩ := hv.vals
  rw [List.length_map] at hsl hat1 ⊢
  have hn := hbs.len
  have hsl1 := hsl.mono hle1
  refine ext_intro [.slice base bs.length cap] rfl (box_at hat1) ?_
  refine loop_intro (fun p : Nat × Mem => p.1 ≤ bs.length ∧ ∀ (j : Nat) b, j < p.1 → bs[j]? = some b → bndOk bs b)
    (fun (i, H) => ⟨[(1, .loc 0 r1 0), (9, .val (.slice base bs.length cap)), (10, .val (.int .i64 bs.length)), (11, .val (.int .i64 i))], [], 1, μ1, H⟩) (fun p => bs.length - p.1)
    (0, Mem.nil) ⟨by simp, fun j b hj => by simp at hj⟩ (fun (_, _) => ⟨rfl, rfl⟩) ⟨⟨rfl, rfl, rfl, rfl, trivial⟩, trivial, rfl, rfl⟩ ?_
  rintro ⟨i, H⟩ ⟨hi, hall⟩
  dsimp only at hi hall
  refine ifd (fun h => ?_) (fun h => ?_)
  · obtain ⟨b, hb⟩ := at_some (l := bs) (i := i) (by omega)
    obtain ⟨ad, p, hel, hto⟩ := B.elem hsl1 hb
    have bad : ¬ bndOk bs b → Value.bool false = .bool (decide (substOk (bs.map B.bd))) := fun k => isF fun hs => k (((substOk_iff bs).1 hs).bnd b (mem_at hb))
    refine elem_intro hel ?_
    intro r r5 hm5 ho5
    refine sto_intro [.bool false] 4 (set_self _ _ _) rfl ?_ ?_
    · exact Nat.le_refl _
    have e : ((H.set r5 (.cells #[.bool false] 4 (0, 0))).set r5 (.cells #[.bool true] 4 (0, 0))) = boolOn H r5 true := Mem.set_set _ _ _ _
    refine call_own (R := fun r μ' h' => r = .tuple #[] ∧ μ' = μ1 ∧ h' = boolOn H r5 (b.to.vars.foldl (unbound bs) true)) ?_ fun v μ' h' hle hap hR => ?_
    · have := eachVar_spec (μ := μ1) (boolOn H r5) (unbound bs) (Q := fun _ => True) (fun s n _ => SubstOk1_spec (H := H) r5 s n hbs.srt (by omega) hsl1 hat1) b.to true hto (fun _ _ => trivial)
      rw [← e] at this
      exact this
    obtain ⟨rfl, e4, rfl⟩ := hR
    obtain rfl := e4.symm
    rw [unbound_all, Bool.true_and]
    refine own_intro [.bool (decide (∀ n ∈ b.to.vars, sub bs n = none))] rfl (fun j v hj => ?_) ?_
    · match j, hj with
      | 0, hj => cases hj; simp [boolOn, Mem.cell, Addr.add_lit', set_self]
    have fin : bndOk bs b → ∀ (j : Nat) c, j < i + 1 → bs[j]? = some c → bndOk bs c := fun hok j c hj hc => by
      rcases Nat.lt_or_ge j i with h6 | h6
      · exact hall j c h6 hc
      · obtain rfl : j = i := by omega
        rw [hb] at hc; cases hc; exact hok
    refine ifnd (fun h1 => ret_plain (bad fun k => h1 k.2)) (fun h1 => ?_)
    refine ifd (fun h2 => ?_) (fun h2 => ?_)
    · refine ifd (fun h3 => ret_plain (bad fun k => k.1 ⟨h2, h3⟩)) (fun h3 => ?_)
      exact num64 (by omega) (by omega) ⟨(i + 1, _), ⟨by dsimp only; omega, fin ⟨fun k => h3 k.2, h1⟩⟩, by dsimp only; omega, ⟨⟨rfl, rfl, rfl, rfl, trivial⟩, trivial, rfl, rfl⟩⟩
    · exact num64 (by omega) (by omega) ⟨(i + 1, _), ⟨by dsimp only; omega, fin ⟨fun k => h2 k.1, h1⟩⟩, by dsimp only; omega, ⟨⟨rfl, rfl, rfl, rfl, trivial⟩, trivial, rfl, rfl⟩⟩
  · obtain rfl : i = bs.length := by omega
    exact ret_plain (isT ((substOk_iff bs).2 ⟨hbs, fun b hb => by
      obtain ⟨j, hj⟩ := List.mem_iff_getElem?.1 hb
      exact hall j b (List.getElem?_eq_some_iff.1 hj).1 hj⟩))
end
end Go.Vx

/- Rows of data that change places; impl.sortBindings. -/
namespace Go.Vx
open Go.Proofs Classical
open Go.Sort
/-- Elements with what they stand for. -/
structure Prs {X : Type} (es : Nat) (f : X → D) (ps : List (X × Value)) (g : Mem) : Prop where
  own : OwnRows es (ps.map fun p => f p.1) (ps.map Prod.snd) g
  size : ∀ p ∈ ps, (vcells p.2).length = es ∧ ∀ u ∈ vcells p.2, u.oneCell' = true
section
variable {X : Type} {es : Nat} {f : X → D} {g : Mem}
theorem Prs.uncons {p : X × Value} {ps : List (X × Value)} (h : Prs es f (p :: ps) g) : ∃ g1 g2, Parts g g1 g2 ∧ Own (f p.1) g1 (vcells p.2) ∧ (f p.1).n = es ∧ Prs es f ps g2 := by
  obtain ⟨⟨ho, hs, hl⟩, hz⟩ := h
  simp only [List.map_cons, List.flatMap_cons] at ho
  obtain ⟨c1, c2, g1, g2, e, hp, h1, h2⟩ := ho
  have hn : (f p.1).n = es := hs _ (by simp)
  have hz0 := (hz p (by simp)).1
  have := List.append_inj e (by rw [h1.len, hn, hz0])
  obtain ⟨rfl, rfl⟩ := this
  exact ⟨g1, g2, hp, h1, hn, ⟨h2, fun x hx => hs x (by simp only [List.map_cons]; exact List.mem_cons_of_mem _ hx), by simp⟩, fun q hq => hz q (List.mem_cons_of_mem _ hq)⟩
theorem Prs.cons {p : X × Value} {ps : List (X × Value)} {g1 g2 : Mem} (hp : Parts g g1 g2) (h1 : Own (f p.1) g1 (vcells p.2)) (hn : (f p.1).n = es) (hz : (vcells p.2).length = es ∧ ∀ u ∈ vcells p.2, u.oneCell' = true) (h : Prs es f ps g2) : Prs es f (p :: ps) g := by
  refine ⟨⟨?_, ?_, by simp⟩, ?_⟩
  · simp only [List.map_cons, List.flatMap_cons]
    exact OwnS.cons hp h1 h.own.own
  · intro x hx
    simp only [List.map_cons, List.mem_cons] at hx
    rcases hx with rfl | hx
    · exact hn
    · exact h.own.size x hx
  · intro q hq
    rcases List.mem_cons.1 hq with rfl | hq
    · exact hz
    · exact h.size q hq
theorem Prs.perm {ps ps' : List (X × Value)} (h : ps.Perm ps') : ∀ {g : Mem}, Prs es f ps g → Prs es f ps' g := by
  induction h with
  | nil => exact fun h => h
  | cons p _ ih =>
    intro g h
    obtain ⟨g1, g2, hp, h1, hn, h2⟩ := h.uncons
    exact Prs.cons hp h1 hn (h.size _ (by simp)) (ih h2)
  | swap p q l =>
    intro g h
    obtain ⟨g1, k, hp, h1, hn, h2⟩ := h.uncons
    obtain ⟨g2, g3, hq, h3, hn2, h4⟩ := h2.uncons
    obtain ⟨m, hm1, hm2⟩ := Parts.assoc hp hq.symm
    exact Prs.cons hm2.symm h3 hn2 (h.size _ (by simp)) (Prs.cons hm1 h1 hn (h.size _ (by simp)) h4)
  | trans _ _ ih1 ih2 => exact fun h => ih2 (ih1 h)
theorem Prs.at : ∀ {ps : List (X × Value)} {g : Mem}, Prs es f ps g → ∀ p ∈ ps, ∃ g' : Mem, g'.Le g ∧ Own (f p.1) g' (vcells p.2)
  | [], _, _, p, hp => by simp at hp
  | q :: ps, g, h, p, hp => by
    obtain ⟨g1, g2, hpp, h1, _, h2⟩ := h.uncons
    rcases List.mem_cons.1 hp with rfl | hp
    · exact ⟨g1, hpp.left, h1⟩
    · obtain ⟨g', h3, h4⟩ := Prs.at h2 p hp
      exact ⟨g', h3.trans hpp.right, h4⟩
theorem Prs.els {d : Array (X × Value)} (h : Prs es f d.toList g) : Els es (d.map Prod.snd) := fun x hx => by
  simp only [Array.toList_map, List.mem_map] at hx
  obtain ⟨p, hp, rfl⟩ := hx
  exact h.size p hp
/-- Content and elements, paired. -/
theorem Prs.zip : ∀ {xs : List X} {ys : List Value} {g : Mem}, OwnRows es (xs.map f) ys g → (∀ y ∈ ys, (vcells y).length = es ∧ ∀ u ∈ vcells y, u.oneCell' = true) → Prs es f (xs.zip ys) g ∧ (xs.zip ys).map Prod.fst = xs ∧ (xs.zip ys).map Prod.snd = ys := fun {xs ys g} h hz => by
  have hl : xs.length = ys.length := by simpa using h.len
  have e1 : (xs.zip ys).map Prod.fst = xs := by rw [List.map_fst_zip (by omega)]
  have e2 : (xs.zip ys).map Prod.snd = ys := by rw [List.map_snd_zip (by omega)]
  refine ⟨⟨?_, fun p hp => hz p.2 ?_⟩, e1, e2⟩
  · have e3 : (xs.zip ys).map (fun p => f p.1) = xs.map f := by
      conv => rhs; rw [← e1, List.map_map]
      rfl
    rw [e2, e3]; exact h
  · rw [← e2]; exact List.mem_map.2 ⟨p, hp, rfl⟩
end
section
variable {μ h0 : Mem} {r : Nat} {ty : TypeId} {rest : List Value} {es : Nat}
theorem idxV {n : Nat} {i : Int} {K : Addr → List Value → Prop} {K' : Addr → Prop} (k : Nat) (e : i = k) (hk : k < n) (h : K' ⟨r, k * es, none⟩) : elemVC μ (some ⟨r, 0, none⟩) n es i K K' := by
  subst e
  refine ptr_intro ⟨r, 0, none⟩ rfl (by omega) (by omega) ?_
  have : (⟨r, 0, none⟩ : Addr).add ((k : Int).toNat * es) = ⟨r, k * es, none⟩ := by rw [Addr.add_lit']; simp
  rw [this]; exact h
theorem rdV {d : Array Value} (hE : Els es d) {i c : Nat} {v : Value} {K : List Value → Prop} (hi : i < d.size) (hv : (vcells d[i]!)[c]? = some v) (h : K [v]) : extVC μ (RowV h0 r ty rest d) ((⟨r, i * es, none⟩ : Addr).add c) 1 K :=
  own_intro [v] rfl (fun j x hx => by
    match j, hx with
    | 0, hx =>
      cases hx
      rw [Addr.add_lit', Addr.add_lit', Nat.add_zero]
      exact RowV.cell hE hi hv) h
end
noncomputable instance : Inhabited B := ⟨⟨0, .nil⟩⟩
theorem slBinding : SlTy 43 109 Try.t43 Try.t109 25 := ⟨by kernel_rfl, by kernel_rfl, by kernel_rfl, by kernel_rfl, fun _ => by kernel_rfl, by kernel_rfl⟩
/-- Bindings, by their variables. -/
def ltB (a b : B × Value) : Bool := decide (a.1.var < b.1.var)
theorem swo_ltB : SWO ltB := ⟨fun x => by simp [ltB], fun x y z h1 h2 => by simp only [ltB, decide_eq_true_eq] at *; omega, fun x y z h1 h2 => by simp only [ltB, decide_eq_false_iff_not] at *; omega⟩
section
variable {μ h0 g : Mem} {r : Nat} {ty : TypeId} {rest : List Value}
theorem sortBindings1_spec {rs n cap i j : Nat} {d : Array (B × Value)} (hs : h0 rs = some (.cells #[.slice (some ⟨r, 0, none⟩) n cap] 43 (0, 0))) (hne : rs ≠ r) (hP : Prs 5 (fun b : B => b.bd.d) d.toList g) (hn : d.size = n) (hi : i < n) (hj : j < n) :
    SpecH Try.prog 146 [.int .i64 i, .int .i64 j, .pointer (some ⟨rs, 0, none⟩)] μ (RowV h0 r ty rest (d.map Prod.snd)) fun v μ' h' => v = .bool (ltB d[i]! d[j]!) ∧ μ' = μ ∧ h' = RowV h0 r ty rest (d.map Prod.snd) := by
  have hv : ∀ k, k < n → (vcells (d.map Prod.snd)[k]!)[0]? = some (.int .i64 d[k]!.1.var) := fun k hk => by
    rw [map_get (by omega)]
    have hm : d[k]! ∈ d.toList := by
      rw [getElem!_pos d k (by omega)]
      exact Array.getElem_mem_toList _
    obtain ⟨g', _, ho⟩ := hP.at _ hm
    obtain ⟨v, e, _⟩ := Bd.own ho
    rw [e]; rfl
  have hE := hP.els
  have hrs : RowV h0 r ty rest (d.map Prod.snd) rs = some (.cells #[.slice (some ⟨r, 0, none⟩) n cap] 43 (0, 0)) := (Mem.set_ne hne).trans hs
  refine SpecH.mk [] Try.func146 (by kernel_rfl) ?_
  refine own_intro [.slice (some ⟨r, 0, none⟩) n cap] rfl (box_at hrs) ?_
  refine idxV i rfl hi ?_
  refine rdV hE (by simpa [hn] using hi) (hv i hi) ?_
  refine own_intro [.slice (some ⟨r, 0, none⟩) n cap] rfl (box_at hrs) ?_
  refine idxV j rfl hj ?_
  refine rdV hE (by simpa [hn] using hj) (hv j hj) ?_
  exact ret_plain ⟨rfl, rfl, rfl⟩
theorem sortBindings_spec {n cap : Nat} {d0 : Array (B × Value)} (hr : h0 r = none) (hP : Prs 5 (fun b : B => b.bd.d) d0.toList g) (hn : d0.size = n) (hmax : n ≤ 1000000000000) :
    SpecH Try.prog 77 [.slice (some ⟨r, 0, none⟩) n cap] μ (RowV h0 r ty rest (d0.map Prod.snd)) fun v μ' h' => v = .tuple #[] ∧ ∃ d' : Array (B × Value), d'.toList.Perm d0.toList ∧ SortedIn ltB 0 n d' ∧ h' = RowV h0 r ty rest (d'.map Prod.snd) := by
  refine SpecH.mk [1] Try.func77 (by kernel_rfl) ?_
  intro rs hm ho
  have hne : rs ≠ r := fun e => by
    subst e
    have : RowV h0 rs ty rest (d0.map Prod.snd) rs = none := ho
    rw [RowV, Mem.set_at] at this; cases this
  have hs0 : h0 rs = none := by
    have : RowV h0 r ty rest (d0.map Prod.snd) rs = none := ho
    rwa [RowV, Mem.set_ne hne] at this
  have e0 : ∀ (o : Obj) (d : Array Value), Mem.set (RowV h0 r ty rest d) rs o = RowV (h0.set rs o) r ty rest d := fun o d => by
    rw [RowV, RowV]
    funext k
    simp only [Mem.set_get]
    by_cases h1 : k = r
    · subst h1; rw [if_neg (fun e => hne e.symm), if_pos rfl, if_pos rfl]
    · by_cases h2 : k = rs
      · rw [if_pos h2, if_neg h1, if_pos h2]
      · rw [if_neg h2, if_neg h1, if_neg h1, if_neg h2]
  generalize hH : Mem.set (RowV h0 r ty rest (d0.map Prod.snd)) rs _ = H
  obtain rfl : H = RowV (h0.set rs (.cells #[.slice (some ⟨r, 0, none⟩) n cap] 43 (0, 0))) r ty rest (d0.map Prod.snd) := hH.symm.trans (e0 _ _)
  clear hH ho hm
  have hrs : RowV (h0.set rs (.cells #[.slice (some ⟨r, 0, none⟩) n cap] 43 (0, 0))) r ty rest (d0.map Prod.snd) rs = some (.cells #[.slice (some ⟨r, 0, none⟩) n cap] 43 (0, 0)) := (Mem.set_ne hne).trans (Mem.set_at _ _ _)
  refine own_intro [.slice (some ⟨r, 0, none⟩) n cap] rfl (box_at hrs) ?_
  refine call_own (SortSlice_spec (lb := [.pointer (some ⟨rs, 0, none⟩)]) (enc := Prod.snd) slBinding (ttok.get rfl) (fun h => nomatch h) hP.els hn hmax swo_ltB fun {μ' d i j} _ hV hi hj => sortBindings1_spec (Mem.set_at _ _ _) hne (hP.perm (permIn_list hn hV).symm) (hV.1.trans hn) hi hj) fun v μ' h' hle hap hR => ?_
  obtain ⟨rfl, d', p1, p2, rfl⟩ := hR
  refine ret_own (Mem.nil.set rs (.cells #[.slice (some ⟨r, 0, none⟩) n cap] 43 (0, 0))) (RowV h0 r ty rest (d'.map Prod.snd)) ?_ ⟨rfl, d', permIn_list hn p1, p2, rfl⟩
  show Parts (RowV (h0.set rs _) r ty rest (d'.map Prod.snd)) _ _
  rw [← e0]
  exact parts_set (by rw [RowV, Mem.set_ne hne]; exact hs0)
end
end Go.Vx

/- Marks counted; the term of an answer. -/
namespace Go.Vx
open Go.Proofs Classical
theorem tm_cnt : ∀ t : Tm, t.d.cnt = 3 * t.cnt :=
  Tm.ind fun k n s l ih => by
    have : D.cnts (l.map Tm.d) = 3 * Tm.cnts l := by
      induction l with
      | nil => rfl
      | cons t l ih2 =>
        have h1 := ih t (by simp)
        have h2 := ih2 fun t ht => ih t (by simp [ht])
        simp only [List.map_cons, D.cnts, Tm.cnts, h1, h2]; omega
    rw [Tm.cnt_eq, Tm.cnt]
    show 3 + D.cnts (l.map Tm.d) = _
    omega
theorem tm_cnt_sz : ∀ t : Tm, t.d.cnt ≤ 3 + 3 * t.d.sz :=
  Tm.ind fun k n s l ih => by
    have : D.cnts (l.map Tm.d) ≤ 3 * l.length + 3 * D.szs (l.map Tm.d) := by
      induction l with
      | nil => simp [D.cnts, D.szs]
      | cons t l ih2 =>
        have h1 := ih t (by simp)
        have h2 := ih2 fun t ht => ih t (by simp [ht])
        simp only [List.map_cons, D.cnts, D.szs, List.length_cons]; omega
    rw [Tm.cnt_eq, Tm.d_mk]
    show 3 + D.cnts (l.map Tm.d) ≤ _
    simp only [D.sz, D.szs, List.length_map]
    omega
theorem bds_cnt : ∀ l : List Bd, D.cnts (l.map Bd.d) ≤ 4 * l.length + 3 * D.szs (l.map Bd.d)
  | [] => by simp [D.cnts, D.szs]
  | b :: l => by
    have h1 := bds_cnt l
    have h2 := tm_cnt_sz b.to
    rw [Tm.cnt_eq] at h2
    have h3 := Bd.cnt_eq b
    have h4 : b.d.sz = b.to.d.sz := by simp [Bd.d, D.sz, D.szs]
    simp only [List.map_cons, D.cnts, D.szs, List.length_cons]; omega
theorem tm_mt (t : Tm) (k : Int) : (t.d.mt k).2 = k + D.cnts (t.args.map Tm.d) := by rw [Tm.mt_eq]; exact D.mks_cnt _ _
/-- The term of an answer. -/
def resTm : Option T → Tm
  | some y => y.tm
  | none => .mk 0 0 ⟨#[]⟩ []
theorem zero_own : OwnV (resTm none).d Mem.nil (.agg #[.int .i64 0, .int .i64 0, .string ⟨#[]⟩, .slice none 0 0]) := by
  rw [resTm, Tm.d_mk]
  exact ⟨_, rfl, OwnS.int (OwnS.int (OwnS.str (OwnS.last (Own.nilSl 4))))⟩
theorem optV_rep {μ : Mem} {o : Option T} {v : Value} (h : optV (fun y tv => RepV μ y.tm.d tv) o v) : ∃ tv, v = .tuple #[tv, .bool o.isSome] ∧ RepV μ (resTm o).d tv := by
  cases o with
  | some y => obtain ⟨tv, rfl, h⟩ := h; exact ⟨tv, rfl, h⟩
  | none => exact ⟨_, h, zero_own.rep (fun _ _ h => nomatch h)⟩
theorem optV_fresh {μ μ' : Mem} {o : Option T} {v : Value} (h : optV (fun y tv => Fresh μ μ' y.tm.d tv) o v) : ∃ tv, v = .tuple #[tv, .bool o.isSome] ∧ Fresh μ μ' (resTm o).d tv := by
  cases o with
  | some y => obtain ⟨tv, rfl, h⟩ := h; exact ⟨tv, rfl, h⟩
  | none => exact ⟨_, h, Mem.nil, zero_own, (fun _ _ h => nomatch h), fun _ h => absurd rfl h⟩
end Go.Vx

/- Contracts: substitutions applied; which one is more general; unifiers. -/
namespace Go.Vx
open Go.Proofs Classical
/-! ### Plain -/
noncomputable def appl (l : List Bd) (t : Tm) : Option T := if substOk l ∧ t.Ok then fit (t.toT.subst (sub (l.map Bd.b))) else none
theorem fit_some {x y : T} : fit x = some y ↔ x.size ≤ 5000 ∧ x = y := by
  unfold fit
  split
  · rename_i h; exact ⟨fun k => ⟨h, Option.some.inj k⟩, fun k => by rw [k.2]⟩
  · rename_i h; exact ⟨fun k => (nomatch k), fun k => absurd k.1 h⟩
theorem fit_isSome (x : T) : (fit x).isSome = decide (x.size ≤ 5000) := by
  unfold fit
  split <;> simp_all
section
variable {μ : Mem}
theorem spec_ApplySubst_spec {t : Tm} {l : List Bd} {v : Value} {base : Option Addr} {cap : Nat} (hsl : Sl μ 5 base l.length (l.map Bd.d)) (hwl : D.wds (l.map Bd.d)) (hv : RepV μ t.d v) (hw : t.d.wd) :
    Spec Try.prog 89 [.slice base l.length cap, v] μ fun v μ' => optV (fun y tv => RepV μ' y.tm.d tv) (appl l t) v := by
  obtain ⟨p, rfl⟩ := Tm.invV hv
  refine Spec.mk Try.func89 (by kernel_rfl) ?_
  intro r1 r2
  refine call_gives (spec_SubstOk_spec hsl hwl) ?_
  refine ifnd (fun h => ret_plain (by rw [appl, if_neg fun k => h k.1]; rfl)) (fun h1 => ?_)
  refine call_gives (spec_TermOk_spec t hv hw) ?_
  refine ifnd (fun h => ret_plain (by rw [appl, if_neg fun k => h k.2]; rfl)) (fun h2 => ?_)
  obtain ⟨x, _, rfl⟩ := h2.lift
  obtain ⟨bs, rfl, hbs⟩ := h1.subst
  rw [List.length_map] at hsl ⊢
  have e3 : appl (bs.map B.bd) x.tm = fit (x.subst (sub bs)) := by
    rw [appl, if_pos ⟨h1, h2⟩, T.toT_tm, B.map_b]
  rw [e3]
  refine call_plain (l04Apply_spec x hsl hv) fun v1 μ1 hle1 hR => ?_
  obtain ⟨tv, rfl, hR⟩ := hR
  obtain ⟨q, rfl⟩ := Tm.invV hR
  intro r3
  refine ifnd (fun h => ret_plain (by rw [fit, if_neg h]; rfl)) (fun h3 => ?_)
  refine call_plain (l02Copy_spec _ hR) fun v2 μ2 hle2 hR2 => ?_
  obtain ⟨q2, rfl⟩ := Tm.invV hR2
  refine ret_plain ?_
  rw [fit, if_pos h3]
  exact ⟨_, rfl, hR2⟩
end
end Go.Vx

/- Contracts: substitutions composed: the program's side. -/
namespace Go.Vx
open Go.Proofs Classical
open Go.Sort
/-! ### Plain -/
noncomputable def compFrom (bt : List B) : List B → List B → Option (List B)
  | [], acc => some acc
  | b :: r, acc => match fit (b.to.subst (sub bt)) with
    | none => none
    | some x => compFrom bt r (if x = .var b.var then acc else acc ++ [⟨b.var, x⟩])
noncomputable def restB (bs bt : List B) : List B := bt.filter fun b => decide (sub bs b.var = none)
noncomputable def sortB (l : List B) : List B := l.mergeSort fun a b => decide (a.var ≤ b.var)
noncomputable def compL (bs bt : List B) : Option (List B) := match compFrom bt bs [] with
  | none => none
  | some l => if Subst (sortB (l ++ restB bs bt)) then some (sortB (l ++ restB bs bt)) else none
/-- Two substitutions composed. -/
noncomputable def comp (l m : List Bd) : Option (List B) := if substOk l ∧ substOk m then compL (l.map Bd.b) (m.map Bd.b) else none
def optB (P : List B → Value → Prop) (o : Option (List B)) (v : Value) : Prop := match o with
  | some l => ∃ tv, v = .tuple #[tv, .bool true] ∧ P l tv
  | none => v = .tuple #[.slice none 0 0, .bool false]
def AscB (l : List B) : Prop := l.Pairwise fun a b => a.var < b.var
theorem Srt.asc {bs : List B} (h : Srt bs) : AscB bs := by
  rw [AscB, List.pairwise_iff_getElem]
  intro i j hi hj hij
  exact h i j _ _ hij (by simp) (by simp)
theorem AscB.srt {bs : List B} (h : AscB bs) : Srt bs := fun i j b c hij hb hc => by
  rw [AscB, List.pairwise_iff_getElem] at h
  obtain ⟨hi, rfl⟩ := List.getElem?_eq_some_iff.1 hb
  obtain ⟨hj, rfl⟩ := List.getElem?_eq_some_iff.1 hc
  exact h i j hi hj hij
theorem AscB.uniq {a b : B} {l : List B} (h : AscB l) (ha : a ∈ l) (hb : b ∈ l) (e : a.var = b.var) : a = b := by
  obtain ⟨i, hi⟩ := List.mem_iff_getElem?.1 ha
  obtain ⟨j, hj⟩ := List.mem_iff_getElem?.1 hb
  rcases Nat.lt_trichotomy i j with h1 | h1 | h1
  · have := h.srt i j _ _ h1 hi hj; omega
  · subst h1; rw [hi] at hj; cases hj; rfl
  · have := h.srt j i _ _ h1 hj hi; omega
theorem sortB_uniq {s l : List B} (hp : s.Perm l) (hs : AscB s) : s = sortB l := by
  have h2 : (sortB l).Perm s := (List.mergeSort_perm l _).trans hp.symm
  refine List.Perm.eq_of_pairwise (le := fun a b : B => a.var ≤ b.var) (fun a b ha hb h3 h4 => ?_) (hs.imp fun h => by omega) ?_ h2.symm
  · exact hs.uniq ha (h2.mem_iff.1 hb) (by omega)
  · have := List.pairwise_mergeSort (le := fun a b : B => decide (a.var ≤ b.var)) (fun a b c h1 h2 => by simp only [decide_eq_true_eq] at *; omega) (fun a b => by simp only [Bool.or_eq_true, decide_eq_true_eq]; omega) l
    exact this.imp fun h => by simpa using h
theorem AscB.nodup {l : List B} (h : AscB l) : (l.map B.var).Nodup := by
  rw [List.Nodup, List.pairwise_map]
  exact h.imp fun h => by omega
theorem AscB.of_le {l : List B} (h : l.Pairwise fun a b => a.var ≤ b.var) (hn : (l.map B.var).Nodup) : AscB l := by
  rw [List.Nodup, List.pairwise_map] at hn
  exact h.and hn |>.imp fun ⟨h1, h2⟩ => by omega
theorem comp_nodup {bs bt acc : List B} (hs : AscB bs) (ht : AscB bt) (hsub : (acc.map B.var).Sublist (bs.map B.var)) : ((acc ++ restB bs bt).map B.var).Nodup := by
  rw [List.map_append, List.nodup_append]
  refine ⟨hs.nodup.sublist hsub, ht.nodup.sublist (List.filter_sublist.map _), fun a ha b hb e => ?_⟩
  subst e
  obtain ⟨x, hx, rfl⟩ := List.mem_map.1 (hsub.subset ha)
  obtain ⟨y, hy, e⟩ := List.mem_map.1 hb
  have h1 := (List.mem_filter.1 hy).2
  rw [e] at h1
  exact sub_mem hx (of_decide_eq_true h1)
theorem T.isVar {x : T} {n : Int} : (x.tm.kind = 1 ∧ x.tm.num = n) ↔ x = .var n := by
  cases x <;> simp [T.tm, Tm.kind, Tm.num]
section
variable {μ : Mem}
theorem apartB {h : Mem} {r r' cap es : Nat} {ty : TypeId} {ys : List Value} (hb : RowO h r cap ty es ys) (hap : Apart μ h) (hor : r' = r ∨ (h r' = none ∧ μ r' = none)) : μ r' = none := by
  rcases hor with rfl | ⟨_, h2⟩
  · obtain ⟨cs, h1, _⟩ := hb
    cases e : μ r' with
    | none => rfl
    | some o => have := hap r' (by simp [e]); rw [h1] at this; cases this
  · exact h2
theorem Fresh.bd {μ' : Mem} {n : Int} {x : T} {q : Option Addr × Nat} (h : Fresh μ μ' x.tm.d (.agg (x.tm.cs q).toArray)) (hle : μ.Le μ') : Fresh μ μ' (B.bd ⟨n, x⟩).d (.agg (Value.int .i64 n :: x.tm.cs q).toArray) := by
  have := (FreshS.int (n := n) (FreshS.cons h hle (Mem.Le.refl _) FreshS.nil)).st
  have e : vcells (.agg (x.tm.cs q).toArray) ++ [] = x.tm.cs q := by simp [vcells]
  rw [e] at this
  exact this
set_option maxHeartbeats 4000000 in
theorem impl_ComposeSubst_spec {l m : List Bd} {base base2 : Option Addr} {cap cap2 : Nat} (hsl : Sl μ 5 base l.length (l.map Bd.d)) (hsm : Sl μ 5 base2 m.length (m.map Bd.d)) :
    Spec Try.prog 25 [.slice base l.length cap, .slice base2 m.length cap2] μ fun v μ' => optB (fun y tv => Fresh μ μ' (.sl 5 ((y.map B.bd).map Bd.d)) tv) (comp l m) v := by
  refine Spec.mkO [21] Try.func25 (by kernel_rfl) ?_
  refine call_gives (impl_SubstOk_spec hsl) ?_
  refine ifnd (fun h => ret_plain (by rw [comp, if_neg fun k => h k.1]; rfl)) (fun h1 => ?_)
  refine call_gives (impl_SubstOk_spec hsm) ?_
  refine ifnd (fun h => ret_plain (by rw [comp, if_neg fun k => h k.2]; rfl)) (fun h2 => ?_)
  have hcmp : comp l m = compL (l.map Bd.b) (m.map Bd.b) := by rw [comp, if_pos ⟨h1, h2⟩]
  rw [hcmp]
  obtain ⟨bs, rfl, hbs⟩ := h1.subst
  obtain ⟨bt, rfl, hbt⟩ := h2.subst
  clear hcmp
  rw [B.map_b, B.map_b]
  simp only [List.length_map] at hsl hsm ⊢
  have hlen := hbs.vals.len
  have hlen2 := hbt.vals.len
  generalize hout : compL bs bt = O
  rw [compL] at hout
  generalize hc : compFrom bt bs [] = R at hout
  intro r21 hm21 ho21
  refine loop_intro (fun p : Nat × Nat × Nat × Nat × List Value × List B × Mem × Mem => p.1 ≤ bs.length ∧ p.2.2.2.2.1.length = p.2.2.2.1 ∧ RowO p.2.2.2.2.2.2.2 p.2.1 p.2.2.1 109 5 p.2.2.2.2.1 ∧ Apart p.2.2.2.2.2.2.1 p.2.2.2.2.2.2.2 ∧ μ.Le p.2.2.2.2.2.2.1 ∧ Grown 5 μ p.2.2.2.2.2.2.1 ((p.2.2.2.2.2.1.map B.bd).map Bd.d) p.2.2.2.2.1 ∧ compFrom bt (bs.drop p.1) p.2.2.2.2.2.1 = R ∧ (p.2.2.2.2.2.1.map B.var).Sublist ((bs.take p.1).map B.var))
    (fun (i, b, c, m, ys, acc, μ', h) => ⟨[(0, .val (.slice base bs.length cap)), (1, .val (.slice base2 bt.length cap2)), (6, .val (.slice (some ⟨b, 0, none⟩) m c)), (22, .val (.slice base bs.length cap)), (23, .val (.int .i64 bs.length)), (24, .val (.int .i64 i))], [], 0, μ', h⟩) (fun p => bs.length - p.1)
    (0, r21, 0, 0, [], [], μ, _) ⟨by simp, rfl, ⟨[], Mem.set_at _ _ _, by simp, by simp, by simp, rfl, rfl⟩, (apart_nil μ).set hm21, Mem.Le.refl _, Grown.nil _ _ _, hc, by simp⟩ (fun (_, _, _, _, _, _, _, _) => ⟨rfl, rfl⟩) ⟨⟨rfl, rfl, rfl, rfl, rfl, rfl, trivial⟩, trivial, rfl, rfl⟩ ?_
  clear hc hm21 ho21
  rintro ⟨i, b, c, m, ys, acc, μ', h⟩ ⟨hi, hm, hb, hap, hle, hgr, hJ, hsub⟩
  dsimp only at hi hm hb hap hle hgr hJ hsub
  have hyl := hgr.len
  have hal := hsub.length_le
  simp only [List.length_map, List.length_take] at hyl hal
  refine ifd (fun hlt => ?_) (fun hlt => ?_)
  · obtain ⟨x, hx⟩ := at_some (l := bs) (i := i) (by omega)
    obtain ⟨ad, p, hel, hto⟩ := B.elem (hsl.mono hle) hx
    rw [drop_at hx, compFrom] at hJ
    have hsub1 : ∀ z : T, ((acc ++ [B.mk x.var z]).map B.var).Sublist ((bs.take (i + 1)).map B.var) := fun z => by
      rw [List.take_add_one, hx, Option.toList_some, List.map_append, List.map_append]
      exact hsub.append (List.Sublist.refl _)
    have hsub2 : (acc.map B.var).Sublist ((bs.take (i + 1)).map B.var) := by
      rw [List.take_add_one, List.map_append]
      exact hsub.trans (List.sublist_append_left _ _)
    refine elem_intro hel ?_
    intro r8
    refine call_data hap (put_spec x.to hbt.vals.srt (by omega) hbt.vals.tok (hsm.mono hle) hto) fun v1 μ1 hle1 hap1 hR => ?_
    cases hf : fit (x.to.subst (sub bt)) with
    | none =>
      rw [hf] at hR hJ
      obtain rfl := hR
      obtain rfl : none = R := hJ
      obtain rfl : none = O := hout
      intro r9
      refine if_intro (fun _ => ?_) (fun h => nomatch h)
      exact ret_own _ Mem.nil (Parts.nil_right _) rfl
    | some y =>
      rw [hf] at hR hJ
      dsimp only at hJ
      obtain ⟨tv, rfl, htv⟩ := hR
      obtain ⟨q, rfl⟩ := Tm.invV htv.rep
      intro r9
      refine if_intro (fun h => nomatch h) (fun _ => ?_)
      refine ifnd (fun hk => ?_) (fun hk => ?_)
      · rw [if_neg fun e => hk ((T.isVar (n := x.var)).2 e).1] at hJ
        intro r52
        refine app_intro ys hm hb ?_ ?_ fun b' c' o hrow hor => ?_
        · show (m + 1) * 64 ≤ _; omega
        · exact Nat.le_trans (m := 100000000) (show m + 1 ≤ _ by omega) (by decide)
        refine num64 (by omega) (by omega) ⟨(i + 1, b', c', m + 1, _, acc ++ [⟨x.var, y⟩], μ1, _), ⟨by dsimp only; omega, by dsimp only; rw [List.length_append, hm]; rfl, hrow, hap1.set (apartB hb hap1 hor), hle.trans hle1, ?_, hJ, hsub1 _⟩, by dsimp only; omega, ⟨⟨rfl, rfl, rfl, rfl, rfl, rfl, trivial⟩, trivial, rfl, rfl⟩⟩
        dsimp only
        rw [List.map_append, List.map_append]
        exact hgr.snoc hle (Fresh.bd htv hle1) hle1 (Bd.d_n _)
      refine ifnd (fun hk2 => ?_) (fun hk2 => ?_)
      · rw [if_neg fun e => hk2 ((T.isVar (n := x.var)).2 e).2] at hJ
        intro r52
        refine app_intro ys hm hb ?_ ?_ fun b' c' o hrow hor => ?_
        · show (m + 1) * 64 ≤ _; omega
        · exact Nat.le_trans (m := 100000000) (show m + 1 ≤ _ by omega) (by decide)
        refine num64 (by omega) (by omega) ⟨(i + 1, b', c', m + 1, _, acc ++ [⟨x.var, y⟩], μ1, _), ⟨by dsimp only; omega, by dsimp only; rw [List.length_append, hm]; rfl, hrow, hap1.set (apartB hb hap1 hor), hle.trans hle1, ?_, hJ, hsub1 _⟩, by dsimp only; omega, ⟨⟨rfl, rfl, rfl, rfl, rfl, rfl, trivial⟩, trivial, rfl, rfl⟩⟩
        dsimp only
        rw [List.map_append, List.map_append]
        exact hgr.snoc hle (Fresh.bd htv hle1) hle1 (Bd.d_n _)
      · rw [if_pos ((T.isVar (n := x.var)).1 ⟨hk, hk2⟩)] at hJ
        refine num64 (by omega) (by omega) ⟨(i + 1, b, c, m, ys, acc, μ1, h), ⟨by dsimp only; omega, hm, hb, hap1, hle.trans hle1, hgr.mono hle1, hJ, hsub2⟩, by dsimp only; omega, ⟨⟨rfl, rfl, rfl, rfl, rfl, rfl, trivial⟩, trivial, rfl, rfl⟩⟩
  obtain rfl : i = bs.length := by omega
  rw [List.drop_length, compFrom] at hJ
  rw [List.take_length] at hsub
  subst hJ
  dsimp only at hout
  have hnd := comp_nodup (bt := bt) hbs.vals.srt.asc hbt.vals.srt.asc hsub
  have hal0 : acc.length ≤ 400 := by omega
  clear hsub hal hi hlt
  refine loop_intro (fun p : Nat × Nat × Nat × Nat × List Value × Mem × Mem => p.1 ≤ bt.length ∧ p.2.2.2.2.1.length = p.2.2.2.1 ∧ RowO p.2.2.2.2.2.2 p.2.1 p.2.2.1 109 5 p.2.2.2.2.1 ∧ Apart p.2.2.2.2.2.1 p.2.2.2.2.2.2 ∧ μ.Le p.2.2.2.2.2.1 ∧ Grown 5 μ p.2.2.2.2.2.1 (((acc ++ restB bs (bt.take p.1)).map B.bd).map Bd.d) p.2.2.2.2.1)
    (fun (i, b, c, m, ys, μ', h) => ⟨[(0, .val (.slice base bs.length cap)), (6, .val (.slice (some ⟨b, 0, none⟩) m c)), (55, .val (.slice base2 bt.length cap2)), (56, .val (.int .i64 bt.length)), (57, .val (.int .i64 i))], [], 0, μ', h⟩) (fun p => bt.length - p.1)
    (0, b, c, m, ys, μ', h) ⟨by simp, hm, hb, hap, hle, by simpa [restB] using hgr⟩ (fun (_, _, _, _, _, _, _) => ⟨rfl, rfl⟩) ⟨⟨rfl, rfl, rfl, rfl, rfl, trivial⟩, trivial, rfl, rfl⟩ ?_
  clear hgr hle hb hyl hap hm
  rintro ⟨i, b, c, m, ys, μ', h⟩ ⟨hi, hm, hb, hap, hle, hgr⟩
  dsimp only at hi hm hb hap hle hgr
  have hyl := hgr.len
  have hfl : (restB bs (bt.take i)).length ≤ i := Nat.le_trans (List.length_filter_le _ _) (by simp; omega)
  simp only [List.length_map, List.length_append] at hyl
  refine ifd (fun hlt => ?_) (fun hlt => ?_)
  · obtain ⟨x, hx⟩ := at_some (l := bt) (i := i) (by omega)
    obtain ⟨ad, p, hel, hto⟩ := B.elem (hsm.mono hle) hx
    have hrest : restB bs (bt.take (i + 1)) = restB bs (bt.take i) ++ if sub bs x.var = none then [x] else [] := by
      rw [restB, List.take_add_one, hx, Option.toList_some, List.filter_append, restB]
      congr 1
      by_cases h : sub bs x.var = none
      · simp [h]
      · simp [h]
    refine elem_intro hel ?_
    intro r12
    refine call_data hap (find_spec hbs.vals.srt (by omega) (hsl.mono hle)) fun v1 μ1 hle1 hap1 hR => ?_
    obtain ⟨hF, e5⟩ := hR
    obtain rfl := e5.symm
    rcases hF with ⟨k, z, rfl, hz, hzv⟩ | ⟨rfl, hno⟩
    · refine ifd (fun h => by omega) (fun _ => ?_)
      have hs : sub bs x.var = some z.to := sub_some hbs.vals.srt hz hzv
      rw [if_neg (by rw [hs]; simp), List.append_nil] at hrest
      refine num64 (by omega) (by omega) ⟨(i + 1, b, c, m, ys, μ', h), ⟨by dsimp only; omega, hm, hb, hap, hle, by dsimp only; rw [hrest]; exact hgr⟩, by dsimp only; omega, ⟨⟨rfl, rfl, rfl, rfl, rfl, trivial⟩, trivial, rfl, rfl⟩⟩
    · refine ifd (fun _ => ?_) (fun h => absurd (by decide) h)
      have hno' : sub bs x.var = none := sub_none hno
      rw [if_pos hno'] at hrest
      refine call_data hap (copyTerm_spec x.to hto) fun v1 μ1 hle1 hap1 hR => ?_
      obtain ⟨q, rfl⟩ := Tm.invV hR.rep
      intro r73
      refine app_intro ys hm hb ?_ ?_ fun b' c' o hrow hor => ?_
      · show (m + 1) * 64 ≤ _; omega
      · exact Nat.le_trans (m := 100000000) (show m + 1 ≤ _ by omega) (by decide)
      refine num64 (by omega) (by omega) ⟨(i + 1, b', c', m + 1, _, μ1, _), ⟨by dsimp only; omega, by dsimp only; rw [List.length_append, hm]; rfl, hrow, hap1.set (apartB hb hap1 hor), hle.trans hle1, ?_⟩, by dsimp only; omega, ⟨⟨rfl, rfl, rfl, rfl, rfl, trivial⟩, trivial, rfl, rfl⟩⟩
      dsimp only
      rw [hrest, ← List.append_assoc, List.map_append, List.map_append]
      exact hgr.snoc hle (Fresh.bd hR hle1) hle1 (Bd.d_n _)
  obtain rfl : i = bt.length := by omega
  rw [List.take_length] at hgr hyl hfl
  generalize hL : acc ++ restB bs bt = L at *
  have hLl : L.length ≤ 800 := by rw [← hL, List.length_append]; omega
  subst hm
  have hyl' : L.length = ys.length := by rw [← hL, List.length_append]; exact hyl
  obtain ⟨cs, hcell, hlen0, hcap, hone, hcs, htake⟩ := hb
  obtain ⟨rest, rfl⟩ : ∃ rest, cs = ys.flatMap vcells ++ rest := by
    refine ⟨cs.drop (ys.length * 5), ?_⟩
    conv => lhs; rw [← List.take_append_drop (ys.length * 5) cs, htake]
  obtain ⟨h0, hh0, hsplit⟩ : ∃ h0 : Mem, h0 b = none ∧ h = RowV h0 b 109 rest ys.toArray := by
    refine ⟨fun k => if k = b then none else h k, if_pos rfl, funext fun k => ?_⟩
    rw [RowV, Mem.set_get]
    by_cases e : k = b
    · subst e; rw [if_pos rfl, hcell]
    · rw [if_neg e, if_neg e]
  subst hsplit
  obtain ⟨g, hown, hgle, hgf⟩ := hgr
  rw [List.map_map] at hown
  obtain ⟨hP, e1, e2⟩ := Prs.zip (f := fun b : B => b.bd.d) hown hone
  have ea : ys.toArray = (L.zip ys).toArray.map Prod.snd := by simp [e2]
  have hzn : (L.zip ys).toArray.size = ys.length := by simp; omega
  have hspec := sortBindings_spec (μ := μ') (h0 := h0) (r := b) (ty := 109) (rest := rest) (n := ys.length) (cap := c) (d0 := (L.zip ys).toArray) hh0 hP hzn (by omega)
  rw [← ea] at hspec
  refine call_own hspec fun v μ2 h2 hle2 hap2 hR => ?_
  obtain ⟨rfl, d', p1, p2, rfl⟩ := hR
  have hds : d'.size = ys.length := by
    have := p1.length_eq
    rw [Array.length_toList, Array.length_toList] at this
    omega
  obtain ⟨S, hS⟩ : ∃ S, S = d'.toList.map Prod.fst := ⟨_, rfl⟩
  obtain ⟨vs, hvs⟩ : ∃ vs, vs = d'.toList.map Prod.snd := ⟨_, rfl⟩
  have hSp : S.Perm L := by rw [hS, ← e1]; exact p1.map _
  have hSa : AscB S := by
    refine AscB.of_le ?_ ((hSp.map _).nodup_iff.2 hnd)
    rw [List.pairwise_iff_getElem]
    intro a b' ha hb' hab
    subst hS
    have ha : a < d'.size := by simpa using ha
    have hb' : b' < d'.size := by simpa using hb'
    have := p2 a b' (Nat.zero_le _) hab (by omega)
    rw [getElem!_pos d' a (by omega), getElem!_pos d' b' (by omega)] at this
    simp only [ltB, decide_eq_false_iff_not] at this
    simp only [List.getElem_map, Array.getElem_toList]
    exact Int.not_lt.1 this
  have hSs : S = sortB L := sortB_uniq hSp hSa
  have hP2 := hP.perm p1.symm
  have hown2 : OwnRows 5 ((S.map B.bd).map Bd.d) vs g := by
    have := hP2.own
    rw [hS, hvs, List.map_map, List.map_map]
    exact this
  have hvl : vs.length = ys.length := by rw [hvs]; simpa using hds
  have hSl : S.length = ys.length := by rw [hS]; simpa using hds
  have hb2 : μ2 b = none := by
    cases e : μ2 b with
    | none => rfl
    | some o => have := hap2 b (by simp [e]); rw [RowV, Mem.set_at] at this; cases this
  have hev : (d'.map Prod.snd).toList = vs := by rw [hvs]; simp
  have F := Fresh.ofRow (μ := μ) (μ1 := μ2) (μ' := μ2.join (RowV h0 b 109 rest (d'.map Prod.snd))) (b := some b) (cap := c) hown2 (hgle.trans hle2) hgf (hle.trans hle2) (Mem.le_join _ _) (fun r e => by cases e; exact hb2)
    ⟨by omega, fun x hx => by
      rw [hvs] at hx
      obtain ⟨p, hp, rfl⟩ := List.mem_map.1 hx
      exact hP2.size p hp, _, _, by rw [Mem.join_get, hb2, RowV, Mem.set_at], by
        have h5 : (ys.flatMap vcells).length = ys.length * 5 := flat_len _ fun y hy => (hone y hy).1
        have h6 : (vs.flatMap vcells).length = vs.length * 5 := flat_len _ fun y hy => by
          rw [hvs] at hy
          obtain ⟨p, hp, rfl⟩ := List.mem_map.1 hy
          exact (hP2.size p hp).1
        rw [List.length_append] at hcs
        rw [hev, List.size_toArray, List.length_append]
        omega, by
        have h6 : (vs.flatMap vcells).length = vs.length * 5 := flat_len _ fun y hy => by
          rw [hvs] at hy
          obtain ⟨p, hp, rfl⟩ := List.mem_map.1 hy
          exact (hP2.size p hp).1
        rw [hev, ← h6, List.take_left]⟩ (Nat.le_trans (m := 100000000) (by omega) (by decide))
  rw [hvl] at F
  have hrep := F.rep
  obtain ⟨b9, c9, e9, hslS⟩ := Rep.sl hrep
  have hslS' : Sl (μ2.join (RowV h0 b 109 rest (d'.map Prod.snd))) 5 (some ⟨b, 0, none⟩) (S.map B.bd).length ((S.map B.bd).map Bd.d) := by
    simp only [Option.map_some, Value.slice.injEq] at e9
    obtain ⟨rfl, e10, rfl⟩ := e9
    simpa using hslS
  have hok := impl_SubstOk_spec (cap := c) hslS'
  have hSbl : (S.map B.bd).length = ys.length := by simpa using hSl
  rw [hSbl] at hok
  refine call_read hap2 hok ?_
  subst hout
  rw [← hSs]
  refine ifnd (fun h => ?_) (fun h => ?_)
  · refine ret_own _ Mem.nil (Parts.nil_right _) ?_
    rw [if_neg fun k => h ((substOk_iff S).2 k)]
    rfl
  · refine ret_own _ Mem.nil (Parts.nil_right _) ?_
    rw [if_pos ((substOk_iff S).1 h)]
    exact ⟨_, rfl, F⟩
end
end Go.Vx

/- Plain: terms that are well-formed fit the machine. -/
namespace Go.Vx
open Go.Proofs Classical
theorem var_ok {n : Int} (h : 0 ≤ n ∧ n ≤ 100000) : (T.var n).ok := ⟨h, by simp [T.size]⟩
theorem var_wd {n : Int} (h : 0 ≤ n ∧ n ≤ 100000) : (T.var n).tm.d.wd := by
  rw [T.d_eq]
  exact ⟨⟨show (-9223372036854775808 : Int) ≤ 1 by decide, show (1 : Int) ≤ 9223372036854775807 by decide⟩, ⟨show _ ≤ n by omega, show n ≤ _ by omega⟩, Nat.zero_le _, trivial, trivial⟩
theorem T.good_subst {f : Int → Option T} (hf : ∀ n y, f n = some y → y.good) : ∀ {x : T}, x.good → (x.subst f).good
  | .var n, h => by
    simp only [T.subst]
    cases e : f n with
    | none => exact h
    | some y => exact hf n y e
  | .pair a b, h => ⟨T.good_subst hf h.1, T.good_subst hf h.2⟩
  | .nil, h => h
  | .sym _, h => h
  | .num _, h => h
theorem T.good_wd : ∀ {x : T}, x.good → x.tm.d.wd
  | .nil, _ => by
    rw [T.d_eq]
    exact ⟨⟨show (-9223372036854775808 : Int) ≤ 0 by decide, show (0 : Int) ≤ 9223372036854775807 by decide⟩, ⟨show (-9223372036854775808 : Int) ≤ 0 by decide, show (0 : Int) ≤ 9223372036854775807 by decide⟩, Nat.zero_le _, trivial, trivial⟩
  | .var n, h => var_wd h
  | .sym s, h => by
    rw [T.d_eq]
    exact ⟨⟨show (-9223372036854775808 : Int) ≤ 2 by decide, show (2 : Int) ≤ 9223372036854775807 by decide⟩, ⟨show (-9223372036854775808 : Int) ≤ 0 by decide, show (0 : Int) ≤ 9223372036854775807 by decide⟩, Nat.le_trans h.2.1 (by decide), trivial, trivial⟩
  | .num n, h => by
    have h1 : -1000000000 ≤ n ∧ n ≤ 1000000000 := h
    rw [T.d_eq]
    exact ⟨⟨show (-9223372036854775808 : Int) ≤ 3 by decide, show (3 : Int) ≤ 9223372036854775807 by decide⟩, ⟨show _ ≤ n by omega, show n ≤ _ by omega⟩, Nat.zero_le _, trivial, trivial⟩
  | .pair a b, h => by
    rw [T.d_eq]
    exact ⟨⟨show (-9223372036854775808 : Int) ≤ 4 by decide, show (4 : Int) ≤ 9223372036854775807 by decide⟩, ⟨show (-9223372036854775808 : Int) ≤ 0 by decide, show (0 : Int) ≤ 9223372036854775807 by decide⟩, Nat.zero_le _, ⟨T.good_wd h.1, T.good_wd h.2, trivial⟩, trivial⟩
theorem goods_wd : ∀ {l : List T}, (∀ x ∈ l, x.good) → D.wds ((l.map T.tm).map Tm.d)
  | [], _ => trivial
  | x :: l, h => ⟨T.good_wd (h x (by simp)), goods_wd fun y hy => h y (by simp [hy])⟩
end Go.Vx

/- Contracts: substitutions composed: the reference's side. -/
namespace Go.Vx
open Go.Proofs Classical
def GoodB (b : B) : Prop := b.to.good ∧ 0 ≤ b.var ∧ b.var ≤ 100000
theorem goodB_wd : ∀ {l : List B}, (∀ b ∈ l, GoodB b) → D.wds ((l.map B.bd).map Bd.d)
  | [], _ => trivial
  | b :: l, h => by
    obtain ⟨h1, h2, h3⟩ := h b (by simp)
    exact ⟨⟨⟨show (-9223372036854775808 : Int) ≤ b.var by omega, show b.var ≤ (9223372036854775807 : Int) by omega⟩, T.good_wd h1, trivial⟩, goodB_wd fun y hy => h y (by simp [hy])⟩
theorem Vals.good {bs : List B} (h : Vals bs) : ∀ b ∈ bs, GoodB b := fun b hb => ⟨(h.tok b hb).1, h.var b hb⟩
theorem compFrom_good {bt : List B} (ht : Vals bt) : ∀ {l acc R : List B}, (∀ b ∈ l, GoodB b) → (∀ b ∈ acc, GoodB b) → compFrom bt l acc = some R → ∀ b ∈ R, GoodB b
  | [], acc, R, _, ha, h => by
    rw [compFrom] at h; cases h; exact ha
  | b :: l, acc, R, hl, ha, h => by
    rw [compFrom] at h
    cases hf : fit (b.to.subst (sub bt)) with
    | none => rw [hf] at h; cases h
    | some x =>
      rw [hf] at h
      refine compFrom_good ht (fun c hc => hl c (by simp [hc])) ?_ h
      split
      · exact ha
      · intro c hc
        rcases List.mem_append.1 hc with hc | hc
        · exact ha c hc
        · rw [List.mem_singleton] at hc
          subst hc
          have hb := hl b (by simp)
          obtain ⟨_, rfl⟩ := fit_some.1 hf
          exact ⟨T.good_subst (fun n y hy => (sub_ok ht.tok hy).1) hb.1, hb.2⟩
/-- An insertion at its place keeps the order. -/
theorem insAt_perm {α : Type} (l : List α) (x : α) (k : Nat) : (insAt l x k).Perm (l ++ [x]) := by
  unfold insAt
  have h : (l.take k ++ ([x] ++ l.drop k)).Perm (l.take k ++ (l.drop k ++ [x])) := List.Perm.append_left _ List.perm_append_comm
  have e : l.take k ++ (l.drop k ++ [x]) = l ++ [x] := by rw [← List.append_assoc, List.take_append_drop]
  rw [e] at h
  exact h
theorem InsPos.asc {bs : List B} {b : B} {k : Nat} (h : AscB bs) (hk : InsPos bs b.var k) (hn : b.var ∉ bs.map B.var) : AscB (insAt bs b k) := by
  obtain ⟨hk0, hk1, hk2⟩ := hk
  unfold insAt AscB
  have h1 : ∀ a ∈ bs.take k, a.var < b.var := fun a ha => by
    obtain ⟨i, hi⟩ := List.mem_iff_getElem?.1 ha
    have hik : i < k := by
      have := (List.getElem?_eq_some_iff.1 hi).1
      rw [List.length_take] at this; omega
    rw [List.getElem?_take_of_lt hik] at hi
    have hne : a.var ≠ b.var := fun e => hn (by rw [← e]; exact List.mem_map.2 ⟨a, mem_at hi, rfl⟩)
    obtain ⟨c, hc⟩ := at_some (l := bs) (i := k - 1) (by omega)
    have h2 := hk1 c hc (by omega)
    rcases Nat.lt_or_ge i (k - 1) with h3 | h3
    · have := h.srt i (k - 1) a c h3 hi hc; omega
    · obtain rfl : i = k - 1 := by omega
      rw [hi] at hc; cases hc; omega
  have h2 : ∀ a ∈ bs.drop k, b.var < a.var := fun a ha => by
    obtain ⟨i, hi⟩ := List.mem_iff_getElem?.1 ha
    rw [List.getElem?_drop] at hi
    exact hk2 (k + i) a (by omega) hi
  rw [List.pairwise_append, List.pairwise_append]
  refine ⟨h.sublist (List.take_sublist _ _), ⟨List.pairwise_singleton _ _, h.sublist (List.drop_sublist _ _), fun a ha c hc => ?_⟩, fun a ha c hc => ?_⟩
  · rw [List.mem_singleton] at ha; subst ha; exact h2 c hc
  · rcases List.mem_append.1 hc with hc | hc
    · rw [List.mem_singleton] at hc; subst hc; exact h1 a ha
    · have := h1 a ha; have := h2 c hc; omega
section
variable {μ : Mem}
theorem RepV.bd {n : Int} {x : T} {q : Option Addr × Nat} (h : RepV μ x.tm.d (.agg (x.tm.cs q).toArray)) : RepV μ (B.bd ⟨n, x⟩).d (.agg (Value.int .i64 n :: x.tm.cs q).toArray) := by
  have hc := RepV.cells h
  have e : vcells (.agg (x.tm.cs q).toArray) = x.tm.cs q := by simp [vcells]
  rw [e] at hc
  exact ⟨_, rfl, RepS.int (RepS.last hc)⟩
theorem l04Copy_spec {bs : List B} {base : Option Addr} {cap : Nat} (hsl : Sl μ 5 base bs.length ((bs.map B.bd).map Bd.d)) (hn : bs.length ≤ 1000000) :
    Spec Try.prog 72 [.slice base bs.length cap] μ fun v μ' => RepV μ' (.sl 5 ((bs.map B.bd).map Bd.d)) v := by
  refine Spec.mkO [6] Try.func72 (by kernel_rfl) ?_
  intro r6 hm6 ho6
  refine loop_intro (fun p : Nat × Nat × Nat × Nat × List Value × Mem × Mem => p.1 ≤ bs.length ∧ p.2.2.2.2.1.length = p.2.2.2.1 ∧ RowO p.2.2.2.2.2.2 p.2.1 p.2.2.1 109 5 p.2.2.2.2.1 ∧ Apart p.2.2.2.2.2.1 p.2.2.2.2.2.2 ∧ μ.Le p.2.2.2.2.2.1 ∧ Rows p.2.2.2.2.2.1 5 (((bs.take p.1).map B.bd).map Bd.d) p.2.2.2.2.1)
    (fun (i, b, c, m, ys, μ', h) => ⟨[(3, .val (.slice (some ⟨b, 0, none⟩) m c)), (7, .val (.slice base bs.length cap)), (8, .val (.int .i64 bs.length)), (9, .val (.int .i64 i))], [], 0, μ', h⟩) (fun p => bs.length - p.1)
    (0, r6, 0, 0, [], μ, _) ⟨by simp, rfl, ⟨[], Mem.set_at _ _ _, by simp, by simp, by simp, rfl, rfl⟩, (apart_nil μ).set hm6, Mem.Le.refl _, .nil⟩ (fun (_, _, _, _, _, _, _) => ⟨rfl, rfl⟩) ⟨⟨rfl, rfl, rfl, rfl, trivial⟩, trivial, rfl, rfl⟩ ?_
  clear hm6 ho6
  rintro ⟨i, b, c, m, ys, μ', h⟩ ⟨hi, hm, hb, hap, hle, hgr⟩
  dsimp only at hi hm hb hap hle hgr
  have hyl := hgr.len
  simp only [List.length_map, List.length_take] at hyl
  refine ifd (fun hlt => ?_) (fun hlt => ?_)
  · obtain ⟨x, hx⟩ := at_some (l := bs) (i := i) (by omega)
    obtain ⟨ad, p, hel, hto⟩ := B.elem (hsl.mono hle) hx
    refine elem_intro hel ?_
    intro r5
    refine call_data hap (l02Copy_spec x.to hto) fun v1 μ1 hle1 hap1 hR => ?_
    obtain ⟨q, rfl⟩ := Tm.invV hR
    intro r20
    refine app_intro ys hm hb ?_ ?_ fun b' c' o hrow hor => ?_
    · show (m + 1) * 64 ≤ _; omega
    · exact Nat.le_trans (m := 100000000) (show m + 1 ≤ _ by omega) (by decide)
    refine num64 (by omega) (by omega) ⟨(i + 1, b', c', m + 1, _, μ1, _), ⟨by dsimp only; omega, by dsimp only; rw [List.length_append, hm]; rfl, hrow, hap1.set (apartB hb hap1 hor), hle.trans hle1, ?_⟩, by dsimp only; omega, ⟨⟨rfl, rfl, rfl, rfl, trivial⟩, trivial, rfl, rfl⟩⟩
    dsimp only
    rw [List.take_add_one, hx, Option.toList_some]
    simp only [List.map_append, List.map_cons, List.map_nil]
    exact (hgr.mono hle1).append (Rows.one (RepV.bd hR) (Bd.d_n _))
  · obtain rfl : i = bs.length := by omega
    rw [List.take_length] at hgr
    refine ret_own _ Mem.nil (Parts.nil_right _) ?_
    obtain ⟨cs, hcell, hlen0, hcap, hone, hcs, htake⟩ := hb
    have hb2 : μ' b = none := by
      cases e : μ' b with
      | none => rfl
      | some o => have := hap b (by simp [e]); rw [hcell] at this; cases this
    have hrow : RowAt (μ'.join h) (some b) c 5 ys := ⟨hlen0, hone, _, _, by rw [Mem.join_get, hb2]; exact hcell, by simpa using hcs, by simpa using htake⟩
    subst hm
    exact Rows.sl hrow (hgr.mono (Mem.le_join _ _)) (Nat.le_trans (m := 100000000) (by omega) (by decide))
/-- What stands for the growing list: a row of one's own, or data. -/
def HoldsB (μ : Mem) (S : List B) : (Option Nat × Nat × List Value) ⊕ Value → Prop
  | .inl (_, _, ys) => Rows μ 5 ((S.map B.bd).map Bd.d) ys
  | .inr v => RepV μ (.sl 5 ((S.map B.bd).map Bd.d)) v
set_option maxHeartbeats 4000000 in
theorem spec_ComposeSubst_spec {l m : List Bd} {base base2 : Option Addr} {cap cap2 : Nat} (hsl : Sl μ 5 base l.length (l.map Bd.d)) (hwl : D.wds (l.map Bd.d)) (hsm : Sl μ 5 base2 m.length (m.map Bd.d)) (hwm : D.wds (m.map Bd.d)) :
    Spec Try.prog 23 [.slice base l.length cap, .slice base2 m.length cap2] μ fun v μ' => optB (fun y tv => RepV μ' (.sl 5 ((y.map B.bd).map Bd.d)) tv) (comp l m) v := by
  refine Spec.mk Try.func23 (by kernel_rfl) ?_
  refine call_gives (spec_SubstOk_spec hsl hwl) ?_
  refine ifnd (fun h => ret_plain (by rw [comp, if_neg fun k => h k.1]; rfl)) (fun h1 => ?_)
  refine call_gives (spec_SubstOk_spec hsm hwm) ?_
  refine ifnd (fun h => ret_plain (by rw [comp, if_neg fun k => h k.2]; rfl)) (fun h2 => ?_)
  have hcmp : comp l m = compL (l.map Bd.b) (m.map Bd.b) := by rw [comp, if_pos ⟨h1, h2⟩]
  rw [hcmp]
  obtain ⟨bs, rfl, hbs⟩ := h1.subst
  obtain ⟨bt, rfl, hbt⟩ := h2.subst
  clear hcmp
  rw [B.map_b, B.map_b]
  simp only [List.length_map] at hsl hsm ⊢
  have hlen := hbs.vals.len
  have hlen2 := hbt.vals.len
  generalize hout : compL bs bt = O
  rw [compL] at hout
  generalize hc : compFrom bt bs [] = R at hout
  have hgood : ∀ z, R = some z → ∀ b ∈ z, GoodB b := fun z hz => compFrom_good hbt.vals hbs.vals.good (by simp) (hc.trans hz)
  intro r23
  refine loop_intro (fun p : Nat × Option Nat × Nat × List Value × List B × Mem => p.1 ≤ bs.length ∧ μ.Le p.2.2.2.2.2 ∧ Rows p.2.2.2.2.2 5 ((p.2.2.2.2.1.map B.bd).map Bd.d) p.2.2.2.1 ∧ compFrom bt (bs.drop p.1) p.2.2.2.2.1 = R ∧ (p.2.2.2.2.1.map B.var).Sublist ((bs.take p.1).map B.var))
    (fun (i, b, c, ys, acc, μ') => ⟨[(0, .val (.slice base bs.length cap)), (1, .val (.slice base2 bt.length cap2)), (6, .row 0 b ys.length c), (24, .val (.slice base bs.length cap)), (25, .val (.int .i64 bs.length)), (26, .val (.int .i64 i))], [(0, some (.row b c 109 5 ys))], 1, μ', Mem.nil⟩) (fun p => bs.length - p.1)
    (0, some r23, 0, [], [], μ) ⟨by simp, Mem.Le.refl _, .nil, hc, by simp⟩ (fun (_, _, _, _, _, _) => ⟨rfl, rfl⟩) ⟨⟨rfl, rfl, rfl, rfl, rfl, rfl, trivial⟩, ⟨rfl, trivial⟩, rfl, rfl⟩ ?_
  clear hc
  rintro ⟨i, b, c, ys, acc, μ'⟩ ⟨hi, hle, hgr, hJ, hsub⟩
  dsimp only at hi hle hgr hJ hsub
  have hyl := hgr.len
  have hal := hsub.length_le
  simp only [List.length_map, List.length_take] at hyl hal
  refine ifd (fun hlt => ?_) (fun hlt => ?_)
  · obtain ⟨x, hx⟩ := at_some (l := bs) (i := i) (by omega)
    obtain ⟨ad, p, hel, hto⟩ := B.elem (hsl.mono hle) hx
    rw [drop_at hx, compFrom] at hJ
    have hsub1 : ∀ z : T, ((acc ++ [B.mk x.var z]).map B.var).Sublist ((bs.take (i + 1)).map B.var) := fun z => by
      rw [List.take_add_one, hx, Option.toList_some, List.map_append, List.map_append]
      exact hsub.append (List.Sublist.refl _)
    have hsub2 : (acc.map B.var).Sublist ((bs.take (i + 1)).map B.var) := by
      rw [List.take_add_one, List.map_append]
      exact hsub.trans (List.sublist_append_left _ _)
    refine elem_intro hel ?_
    intro r8
    refine call_plain (l04Apply_spec x.to (hsm.mono hle) hto) fun v1 μ1 hle1 hR => ?_
    obtain ⟨tv, rfl, htv⟩ := hR
    obtain ⟨q, rfl⟩ := Tm.invV htv
    intro r9
    refine ifnd (fun h3 => ?_) (fun h3 => ?_)
    · rw [fit, if_neg h3] at hJ
      obtain rfl : none = R := hJ
      obtain rfl : none = O := hout
      exact ret_plain rfl
    rw [fit, if_pos h3] at hJ
    dsimp only at hJ
    generalize x.to.subst (sub bt) = y at *
    refine ifnd (fun hk => ?_) (fun hk => ?_)
    · rw [if_neg fun e => hk ((T.isVar (n := x.var)).2 e).1] at hJ
      intro r54
      refine grow_intro ?_ ?_ fun b' c' _ => ?_
      · show (ys.length + 1) * 64 ≤ _; omega
      · exact Nat.le_trans (m := 100000000) (show ys.length + 1 ≤ _ by omega) (by decide)
      refine num64 (by omega) (by omega) ⟨(i + 1, b', c', _, acc ++ [⟨x.var, y⟩], μ1), ⟨by dsimp only; omega, hle.trans hle1, ?_, hJ, hsub1 _⟩, by dsimp only; omega, ⟨⟨rfl, rfl, rfl, rfl, rfl, rfl, trivial⟩, ⟨rfl, trivial⟩, rfl, rfl⟩⟩
      dsimp only
      rw [List.map_append, List.map_append]
      exact (hgr.mono hle1).append (Rows.one (RepV.bd htv) (Bd.d_n _))
    refine ifnd (fun hk2 => ?_) (fun hk2 => ?_)
    · rw [if_neg fun e => hk2 ((T.isVar (n := x.var)).2 e).2] at hJ
      intro r54
      refine grow_intro ?_ ?_ fun b' c' _ => ?_
      · show (ys.length + 1) * 64 ≤ _; omega
      · exact Nat.le_trans (m := 100000000) (show ys.length + 1 ≤ _ by omega) (by decide)
      refine num64 (by omega) (by omega) ⟨(i + 1, b', c', _, acc ++ [⟨x.var, y⟩], μ1), ⟨by dsimp only; omega, hle.trans hle1, ?_, hJ, hsub1 _⟩, by dsimp only; omega, ⟨⟨rfl, rfl, rfl, rfl, rfl, rfl, trivial⟩, ⟨rfl, trivial⟩, rfl, rfl⟩⟩
      dsimp only
      rw [List.map_append, List.map_append]
      exact (hgr.mono hle1).append (Rows.one (RepV.bd htv) (Bd.d_n _))
    · rw [if_pos ((T.isVar (n := x.var)).1 ⟨hk, hk2⟩)] at hJ
      refine num64 (by omega) (by omega) ⟨(i + 1, b, c, ys, acc, μ1), ⟨by dsimp only; omega, hle.trans hle1, hgr.mono hle1, hJ, hsub2⟩, by dsimp only; omega, ⟨⟨rfl, rfl, rfl, rfl, rfl, rfl, trivial⟩, ⟨rfl, trivial⟩, rfl, rfl⟩⟩
  obtain rfl : i = bs.length := by omega
  rw [List.drop_length, compFrom] at hJ
  rw [List.take_length] at hsub
  subst hJ
  dsimp only at hout
  have hgacc := hgood acc rfl
  have hbsa := hbs.vals.srt.asc
  have hbta := hbt.vals.srt.asc
  have hacc : AscB acc := by
    have h5 : (bs.map B.var).Pairwise (· < ·) := by rw [List.pairwise_map]; exact hbsa
    have h6 := h5.sublist hsub
    rw [List.pairwise_map] at h6
    exact h6
  have hin : ∀ n, sub bs n = none → n ∉ acc.map B.var := fun n hn hm => by
    obtain ⟨z, hz, rfl⟩ := List.mem_map.1 (hsub.subset hm)
    exact sub_mem hz hn
  have hal0 : acc.length ≤ 400 := by omega
  clear hsub hal hi hlt
  refine loop_intro (fun p : Nat × Mem × List B × ((Option Nat × Nat × List Value) ⊕ Value) => p.1 ≤ bt.length ∧ μ.Le p.2.1 ∧ p.2.2.1.Perm (acc ++ restB bs (bt.take p.1)) ∧ AscB p.2.2.1 ∧ HoldsB p.2.1 p.2.2.1 p.2.2.2)
    (fun (i, μ', S, o) => match o with
      | .inl (b, c, ys) => ⟨[(0, .val (.slice base bs.length cap)), (6, .row 0 b ys.length c), (57, .val (.slice base2 bt.length cap2)), (58, .val (.int .i64 bt.length)), (59, .val (.int .i64 i))], [(0, some (.row b c 109 5 ys))], 1, μ', Mem.nil⟩
      | .inr v => ⟨[(0, .val (.slice base bs.length cap)), (6, .val v), (57, .val (.slice base2 bt.length cap2)), (58, .val (.int .i64 bt.length)), (59, .val (.int .i64 i))], [], 1, μ', Mem.nil⟩) (fun p => bt.length - p.1)
    (0, μ', acc, .inl (b, c, ys)) ⟨by simp, hle, by simp [restB], hacc, hgr⟩ (by rintro ⟨_, _, _, ⟨_, _, _⟩ | _⟩ <;> exact ⟨rfl, rfl⟩) ⟨⟨rfl, rfl, rfl, rfl, rfl, trivial⟩, ⟨rfl, trivial⟩, rfl, rfl⟩ ?_
  clear hgr hle hyl
  rintro ⟨i, μ', S, o⟩ ⟨hi, hle, hperm, hasc, hh⟩
  dsimp only at hi hle hperm hasc hh
  have hfl : (restB bs (bt.take i)).length ≤ i := Nat.le_trans (List.length_filter_le _ _) (by simp; omega)
  have hSl := hperm.length_eq
  rw [List.length_append] at hSl
  have hrest : ∀ x, bt[i]? = some x → restB bs (bt.take (i + 1)) = restB bs (bt.take i) ++ if sub bs x.var = none then [x] else [] := fun x hx => by
    rw [restB, List.take_add_one, hx, Option.toList_some, List.filter_append, restB]
    congr 1
    by_cases h : sub bs x.var = none
    · simp [h]
    · simp [h]
  have hnew : ∀ x, bt[i]? = some x → sub bs x.var = none → x.var ∉ S.map B.var := fun x hx hs hm => by
    rw [(hperm.map _).mem_iff, List.map_append, List.mem_append] at hm
    rcases hm with hm | hm
    · exact hin _ hs hm
    · obtain ⟨z, hz, e⟩ := List.mem_map.1 hm
      have hz2 := (List.mem_filter.1 hz).1
      obtain ⟨j, hj⟩ := List.mem_iff_getElem?.1 hz2
      have hji : j < i := by
        have := (List.getElem?_eq_some_iff.1 hj).1
        rw [List.length_take] at this; omega
      rw [List.getElem?_take_of_lt hji] at hj
      have := hbta.srt j i z x hji hj hx
      omega
  have hfin : i = bt.length → S = sortB (acc ++ restB bs bt) ∧ D.wds ((S.map B.bd).map Bd.d) := fun e => by
    subst e
    rw [List.take_length] at hperm
    refine ⟨sortB_uniq hperm hasc, goodB_wd fun z hz => ?_⟩
    rcases List.mem_append.1 (hperm.mem_iff.1 hz) with hz | hz
    · exact hgacc z hz
    · exact hbt.vals.good z (List.mem_filter.1 hz).1
  rcases o with ⟨b, c, ys⟩ | v
  · have hyl := Rows.len hh
    simp only [List.length_map] at hyl
    refine ifd (fun hlt => ?_) (fun hlt => ?_)
    · obtain ⟨x, hx⟩ := at_some (l := bt) (i := i) (by omega)
      obtain ⟨ad, p, hel, hto⟩ := B.elem (hsm.mono hle) hx
      have hbd := RepV.bd (n := x.var) hto
      have hr := hrest x hx
      refine elem_intro hel ?_
      intro r12
      refine call_plain (l04Get_spec (hsl.mono hle)) fun v1 μ1 hle1 hR => ?_
      obtain ⟨hR, e5⟩ := hR
      obtain rfl := e5.symm
      rcases hs : sub bs x.var with _ | y
      rotate_left
      · have hs' : sub bs x.bd.var = some y := hs
        rw [hs'] at hR
        obtain ⟨tv, rfl, htv⟩ := hR
        obtain ⟨q, rfl⟩ := Tm.invV htv
        intro r13
        refine if_intro (fun h => nomatch h) (fun _ => ?_)
        rw [if_neg (by rw [hs]; simp), List.append_nil] at hr
        refine num64 (by omega) (by omega) ⟨(i + 1, μ', S, .inl (b, c, ys)), ⟨by dsimp only; omega, hle, by dsimp only; rw [hr]; exact hperm, hasc, hh⟩, by dsimp only; omega, ⟨⟨rfl, rfl, rfl, rfl, rfl, trivial⟩, ⟨rfl, trivial⟩, rfl, rfl⟩⟩
      · have hs' : sub bs x.bd.var = none := hs
        rw [hs'] at hR
        obtain rfl := hR
        intro r13
        refine if_intro (fun _ => ?_) (fun h => nomatch h)
        rw [if_pos hs] at hr
        refine call_frz [0] ?_
        intro μ3 hle3 hno3 hrow
        have hv := Rows.sl hrow (Rows.mono hle3 hh) (Nat.le_trans (m := 100000000) (by omega) (by decide))
        refine call_go (l04Insert_spec hv (hbd.mono hle3) (by omega)) fun v4 μ4 hle4 hR4 => ?_
        obtain ⟨k, hk, hR4⟩ := hR4
        refine num64 (by omega) (by omega) ⟨(i + 1, μ4, insAt S x k, .inr v4), ⟨by dsimp only; omega, hle.trans (hle3.trans hle4), ?_, hk.asc hasc (hnew x hx hs), hR4⟩, by dsimp only; omega, ⟨⟨rfl, rfl, rfl, rfl, rfl, trivial⟩, trivial, rfl, rfl⟩⟩
        dsimp only
        rw [hr, ← List.append_assoc]
        exact (insAt_perm S x k).trans (hperm.append_right _)
    · obtain ⟨hS, hwd⟩ := hfin (by omega)
      refine call_frz [0] ?_
      intro μ3 hle3 hno3 hrow
      have hv := Rows.sl hrow (Rows.mono hle3 hh) (Nat.le_trans (m := 100000000) (by omega) (by decide))
      obtain ⟨bb, cc, e1, hs1⟩ := Rep.sl hv
      rw [List.length_map] at hs1 e1
      have hok := spec_SubstOk_spec (cap := cc) hs1 hwd
      rw [List.length_map] at hs1 e1 hok
      have hcp := l04Copy_spec (cap := cc) hs1 (by omega)
      rw [← e1] at hcp
      rw [e1]
      refine call_go hok fun v5 μ5 hle5 hR5 => ?_
      obtain ⟨rfl, e5⟩ := hR5
      obtain rfl := e5.symm
      subst hout
      rw [← hS]
      refine ifnd (fun h => ?_) (fun h => ?_)
      · refine ret_plain ?_
        rw [if_neg fun k => h ((substOk_iff S).2 k)]
        rfl
      · rw [if_pos ((substOk_iff S).1 h)]
        refine call_plain hcp fun v6 μ6 hle6 hR6 => ?_
        exact ret_plain ⟨_, rfl, hR6⟩
  · refine ifd (fun hlt => ?_) (fun hlt => ?_)
    · obtain ⟨x, hx⟩ := at_some (l := bt) (i := i) (by omega)
      obtain ⟨ad, p, hel, hto⟩ := B.elem (hsm.mono hle) hx
      have hbd := RepV.bd (n := x.var) hto
      have hr := hrest x hx
      refine elem_intro hel ?_
      intro r12
      refine call_plain (l04Get_spec (hsl.mono hle)) fun v1 μ1 hle1 hR => ?_
      obtain ⟨hR, e5⟩ := hR
      obtain rfl := e5.symm
      rcases hs : sub bs x.var with _ | y
      rotate_left
      · have hs' : sub bs x.bd.var = some y := hs
        rw [hs'] at hR
        obtain ⟨tv, rfl, htv⟩ := hR
        obtain ⟨q, rfl⟩ := Tm.invV htv
        intro r13
        refine if_intro (fun h => nomatch h) (fun _ => ?_)
        rw [if_neg (by rw [hs]; simp), List.append_nil] at hr
        refine num64 (by omega) (by omega) ⟨(i + 1, μ', S, .inr v), ⟨by dsimp only; omega, hle, by dsimp only; rw [hr]; exact hperm, hasc, hh⟩, by dsimp only; omega, ⟨⟨rfl, rfl, rfl, rfl, rfl, trivial⟩, trivial, rfl, rfl⟩⟩
      · have hs' : sub bs x.bd.var = none := hs
        rw [hs'] at hR
        obtain rfl := hR
        intro r13
        refine if_intro (fun _ => ?_) (fun h => nomatch h)
        rw [if_pos hs] at hr
        refine call_plain (l04Insert_spec hh hbd (by omega)) fun v4 μ4 hle4 hR4 => ?_
        obtain ⟨k, hk, hR4⟩ := hR4
        refine num64 (by omega) (by omega) ⟨(i + 1, μ4, insAt S x k, .inr v4), ⟨by dsimp only; omega, hle.trans hle4, ?_, hk.asc hasc (hnew x hx hs), hR4⟩, by dsimp only; omega, ⟨⟨rfl, rfl, rfl, rfl, rfl, trivial⟩, trivial, rfl, rfl⟩⟩
        dsimp only
        rw [hr, ← List.append_assoc]
        exact (insAt_perm S x k).trans (hperm.append_right _)
    · obtain ⟨hS, hwd⟩ := hfin (by omega)
      obtain ⟨bb, cc, rfl, hs1⟩ := Rep.sl hh
      rw [List.length_map] at hs1 ⊢
      have hok := spec_SubstOk_spec (cap := cc) hs1 hwd
      rw [List.length_map] at hs1 hok ⊢
      have hcp := l04Copy_spec (cap := cc) hs1 (by omega)
      refine call_gives hok ?_
      subst hout
      rw [← hS]
      refine ifnd (fun h => ?_) (fun h => ?_)
      · refine ret_plain ?_
        rw [if_neg fun k => h ((substOk_iff S).2 k)]
        rfl
      · rw [if_pos ((substOk_iff S).1 h)]
        refine call_plain hcp fun v6 μ6 hle6 hR6 => ?_
        exact ret_plain ⟨_, rfl, hR6⟩
end
end Go.Vx

/- Contracts: kinds of variables: which lists are well-formed. -/
namespace Go.Vx
open Go.Proofs Classical
open Go.Sort
/-! ### Plain -/
def kokAt (l : List VK) (i : Nat) (k : VK) : Prop := (0 ≤ k.var ∧ k.var ≤ 100000) ∧ (k.kind = 2 ∨ k.kind = 3) ∧ ∀ j c, j + 1 = i → l[j]? = some c → c.var < k.var
def kindsOk (l : List VK) : Prop := ∀ i k, l[i]? = some k → kokAt l i k
def AscK (l : List VK) : Prop := l.Pairwise fun a b => a.var < b.var
def GoodK (k : VK) : Prop := (0 ≤ k.var ∧ k.var ≤ 100000) ∧ (k.kind = 2 ∨ k.kind = 3)
theorem AscK.at {l : List VK} (h : AscK l) : ∀ (i j : Nat) b c, i < j → l[i]? = some b → l[j]? = some c → b.var < c.var := fun i j b c hij hb hc => by
  rw [AscK, List.pairwise_iff_getElem] at h
  obtain ⟨hi, rfl⟩ := List.getElem?_eq_some_iff.1 hb
  obtain ⟨hj, rfl⟩ := List.getElem?_eq_some_iff.1 hc
  exact h i j hi hj hij
theorem AscK.of_at {l : List VK} (h : ∀ (i j : Nat) b c, i < j → l[i]? = some b → l[j]? = some c → b.var < c.var) : AscK l := by
  rw [AscK, List.pairwise_iff_getElem]
  intro i j hi hj hij
  exact h i j _ _ hij (by simp) (by simp)
theorem kindsOk.asc {l : List VK} (h : kindsOk l) : AscK l := AscK.of_at fun i j b c hij hb hc => by
  induction j generalizing c with
  | zero => omega
  | succ j ih =>
    have hj : j < l.length := by have := (List.getElem?_eq_some_iff.1 hc).1; omega
    obtain ⟨d, hd⟩ := at_some hj
    have h1 := (h (j + 1) c hc).2.2 j d rfl hd
    rcases Nat.lt_or_ge i j with h2 | h2
    · have := ih d h2 hd; omega
    · obtain rfl : i = j := by omega
      rw [hb] at hd; cases hd; exact h1
theorem kindsOk_iff (l : List VK) : kindsOk l ↔ AscK l ∧ ∀ k ∈ l, GoodK k := by
  constructor
  · intro h
    refine ⟨h.asc, fun k hk => ?_⟩
    obtain ⟨i, hi⟩ := List.mem_iff_getElem?.1 hk
    exact ⟨(h i k hi).1, (h i k hi).2.1⟩
  · rintro ⟨h1, h2⟩ i k hk
    have := h2 k (mem_at hk)
    exact ⟨this.1, this.2, fun j c hj hc => h1.at j i c k (by omega) hc hk⟩
theorem AscK.uniq {a b : VK} {l : List VK} (h : AscK l) (ha : a ∈ l) (hb : b ∈ l) (e : a.var = b.var) : a = b := by
  obtain ⟨i, hi⟩ := List.mem_iff_getElem?.1 ha
  obtain ⟨j, hj⟩ := List.mem_iff_getElem?.1 hb
  rcases Nat.lt_trichotomy i j with h1 | h1 | h1
  · have := h.at i j _ _ h1 hi hj; omega
  · subst h1; rw [hi] at hj; cases hj; rfl
  · have := h.at j i _ _ h1 hj hi; omega
noncomputable def sortK (l : List VK) : List VK := l.mergeSort fun a b => decide (a.var ≤ b.var)
theorem sortK_uniq {s l : List VK} (hp : s.Perm l) (hs : AscK s) : s = sortK l := by
  have h2 : (sortK l).Perm s := (List.mergeSort_perm l _).trans hp.symm
  refine List.Perm.eq_of_pairwise (le := fun a b : VK => a.var ≤ b.var) (fun a b ha hb h3 h4 => ?_) (hs.imp fun h => by omega) ?_ h2.symm
  · exact hs.uniq ha (h2.mem_iff.1 hb) (by omega)
  · have := List.pairwise_mergeSort (le := fun a b : VK => decide (a.var ≤ b.var)) (fun a b c h1 h2 => by simp only [decide_eq_true_eq] at *; omega) (fun a b => by simp only [Bool.or_eq_true, decide_eq_true_eq]; omega) l
    exact this.imp fun h => by simpa using h
theorem AscK.nodup {l : List VK} (h : AscK l) : (l.map VK.var).Nodup := by
  rw [List.Nodup, List.pairwise_map]
  exact h.imp fun h => by omega
theorem AscK.of_le {l : List VK} (h : l.Pairwise fun a b => a.var ≤ b.var) (hn : (l.map VK.var).Nodup) : AscK l := by
  rw [List.Nodup, List.pairwise_map] at hn
  exact h.and hn |>.imp fun ⟨h1, h2⟩ => by omega
theorem kinds_len {l : List VK} (h : kindsOk l) : l.length ≤ 100001 := by
  have h1 := h.asc.nodup
  have h2 := ((kindsOk_iff l).1 h).2
  have := nodup_range (N := 100001) h1 fun n hn => by
    obtain ⟨k, hk, rfl⟩ := List.mem_map.1 hn
    have := (h2 k hk).1
    omega
  simpa using this
/-- The kind that is asked of a variable. -/
noncomputable def lookK : List VK → Int → Option Int
  | [], _ => none
  | c :: r, n => if c.var = n then some c.kind else lookK r n
theorem lookK_none : ∀ {l : List VK} {n : Int}, (∀ c ∈ l, c.var ≠ n) → lookK l n = none
  | [], _, _ => rfl
  | c :: r, n, h => by rw [lookK, if_neg (h c (by simp)), lookK_none fun x hx => h x (by simp [hx])]
theorem lookK_at : ∀ {l : List VK} {n : Int} {i : Nat} {c : VK}, (∀ j d, j < i → l[j]? = some d → d.var ≠ n) → l[i]? = some c → c.var = n → lookK l n = some c.kind
  | [], _, _, _, _, h, _ => by simp at h
  | d :: r, n, 0, c, _, h, e => by
    simp only [List.getElem?_cons_zero, Option.some.injEq] at h
    subst h; rw [lookK, if_pos e]
  | d :: r, n, i + 1, c, hn, h, e => by
    rw [lookK, if_neg (hn 0 d (by omega) rfl)]
    exact lookK_at (i := i) (fun j x hj hx => hn (j + 1) x (by omega) (by simpa using hx)) (by simpa using h) e
theorem lookK_none_iff : ∀ {l : List VK} {n : Int}, lookK l n = none → ∀ c ∈ l, c.var ≠ n
  | [], _, _, c, hc => by simp at hc
  | d :: r, n, h, c, hc => by
    rw [lookK] at h
    split at h
    · cases h
    · rename_i e
      rcases List.mem_cons.1 hc with rfl | hc
      · exact e
      · exact lookK_none_iff h c hc
/-- A kind is asked of a term. -/
noncomputable def addK1 (l : List VK) (x : T) (k : Int) : Option (List VK) :=
  if x.tm.kind = 1 then (match lookK l x.tm.num with
    | some c => if c = k then some l else none
    | none => some (sortK (l ++ [⟨x.tm.num, k⟩])))
  else if x.tm.kind = k then some l else none
theorem addK1_ok {l l' : List VK} {x : T} {k : Int} (h : kindsOk l) (hx : x.good) (hk : k = 2 ∨ k = 3) (e : addK1 l x k = some l') : kindsOk l' ∧ ((∃ y, l'.Perm (l ++ [y])) ∨ l' = l) := by
  unfold addK1 at e
  split at e
  · rename_i h1
    split at e
    · split at e
      · cases e; exact ⟨h, .inr rfl⟩
      · cases e
    · rename_i hn
      cases e
      have hnum : 0 ≤ x.tm.num ∧ x.tm.num ≤ 100000 := by
        have := T.isVar.1 ⟨h1, (rfl : x.tm.num = x.tm.num)⟩
        rw [this] at hx; exact hx
      have hp : (sortK (l ++ [⟨x.tm.num, k⟩])).Perm (l ++ [⟨x.tm.num, k⟩]) := List.mergeSort_perm _ _
      obtain ⟨ha, hg⟩ := (kindsOk_iff l).1 h
      refine ⟨(kindsOk_iff _).2 ⟨AscK.of_le ?_ ((hp.map _).nodup_iff.2 ?_), fun c hc => ?_⟩, .inl ⟨_, hp⟩⟩
      · have := List.pairwise_mergeSort (le := fun a b : VK => decide (a.var ≤ b.var)) (fun a b c h1 h2 => by simp only [decide_eq_true_eq] at *; omega) (fun a b => by simp only [Bool.or_eq_true, decide_eq_true_eq]; omega) (l ++ [⟨x.tm.num, k⟩])
        exact this.imp fun h => by simpa using h
      · rw [List.map_append, List.nodup_append]
        refine ⟨ha.nodup, by simp, fun a ha b hb e => ?_⟩
        obtain ⟨c, hc, rfl⟩ := List.mem_map.1 ha
        simp only [List.map_cons, List.map_nil, List.mem_singleton] at hb
        exact lookK_none_iff hn c hc (e.trans hb)
      · rcases List.mem_append.1 (hp.mem_iff.1 hc) with hc | hc
        · exact hg c hc
        · rw [List.mem_singleton] at hc; subst hc; exact ⟨hnum, hk⟩
  · split at e
    · cases e; exact ⟨h, .inr rfl⟩
    · cases e
/-- A kind asked of a term under a substitution. -/
noncomputable def addK (s : List Bd) (l : List VK) (t : Tm) (k : Int) : Option (List VK) :=
  if substOk s ∧ t.Ok ∧ kindsOk l ∧ (k = 2 ∨ k = 3) then (fit (t.toT.subst (sub (s.map Bd.b)))).bind fun x => addK1 l x k else none
def optVK (P : List VK → Value → Prop) (o : Option (List VK)) (v : Value) : Prop := match o with
  | some l => ∃ tv, v = .tuple #[tv, .bool true] ∧ P l tv
  | none => v = .tuple #[.slice none 0 0, .bool false]
theorem vk_wd : ∀ {l : List VK}, (∀ k ∈ l, GoodK k) → D.wds (l.map VK.d)
  | [], _ => trivial
  | k :: l, h => by
    obtain ⟨⟨h1, h2⟩, h3⟩ := h k (by simp)
    exact ⟨⟨⟨show (-9223372036854775808 : Int) ≤ k.var by omega, show k.var ≤ (9223372036854775807 : Int) by omega⟩, ⟨show (-9223372036854775808 : Int) ≤ k.kind by omega, show k.kind ≤ (9223372036854775807 : Int) by omega⟩, trivial⟩, vk_wd fun y hy => h y (by simp [hy])⟩
section
variable {μ : Mem}
theorem impl_KindsOk_spec {l : List VK} {base : Option Addr} {cap : Nat} (hsl : Sl μ 2 base l.length (l.map VK.d)) : Gives Try.prog 85 [.slice base l.length cap] μ (.bool (decide (kindsOk l))) := by
  have hn := maxLen_le hsl.max
  refine Spec.mk Try.func85 (by kernel_rfl) ?_
  refine loop_intro (fun i : Nat => i ≤ l.length ∧ ∀ j k, j < i → l[j]? = some k → kokAt l j k) (fun i => ⟨[(0, .val (.slice base l.length cap)), (5, .val (.slice base l.length cap)), (6, .val (.int .i64 l.length)), (7, .val (.int .i64 i))], [], 0, μ, Mem.nil⟩) (fun i => l.length - i)
    0 ⟨by omega, fun j k hj => by omega⟩ (fun i => ⟨rfl, rfl⟩) ⟨⟨rfl, rfl, rfl, rfl, trivial⟩, trivial, rfl, rfl⟩ ?_
  rintro i ⟨hi, hall⟩
  refine ifd (fun h => ?_) (fun h => ?_)
  rotate_left
  · obtain rfl : i = l.length := by omega
    exact ret_gives (isT fun j k hk => hall j k (List.getElem?_eq_some_iff.1 hk).1 hk) rfl
  obtain ⟨x, hx⟩ := at_some (l := l) (i := i) (by omega)
  obtain ⟨ad, p, hel, hr⟩ := VK.elem hsl hx
  have bad : ¬ kokAt l i x → Value.bool false = .bool (decide (kindsOk l)) := fun k => isF fun hv => k (hv i x hx)
  have next : kokAt l i x → ∀ j k, j < i + 1 → l[j]? = some k → kokAt l j k := fun h0 j k hj hk => by
    rcases Nat.lt_or_ge j i with h6 | h6
    · exact hall j k h6 hk
    · obtain rfl : j = i := by omega
      rw [hx] at hk; cases hk; exact h0
  refine elem_intro hel ?_
  intro r
  refine ifd (fun h1 => ret_gives (bad fun k => by have := k.1.1; omega) rfl) (fun h1 => ?_)
  refine ifd (fun h2 => ret_gives (bad fun k => by have := k.1.2; omega) rfl) (fun h2 => ?_)
  refine ifnd (fun h5 => ?_) (fun h5 => ?_)
  · refine ifnd (fun h6 => ret_gives (bad fun k => by have := k.2.1; omega) rfl) (fun h6 => ?_)
    refine ifd (fun h0 => ?_) (fun h0 => ?_)
    · obtain ⟨c, hc⟩ := at_some (l := l) (i := i - 1) (by omega)
      obtain ⟨ad2, p2, hel2, _⟩ := VK.elem hsl hc
      have hprev : kokAt l i x → c.var < x.var := fun k => k.2.2 (i - 1) c (by omega) hc
      refine num_eq (x := ((i - 1 : Nat) : Int)) (by rw [wrap64 (by omega) (by omega)]; omega) ?_
      refine elem_intro hel2 ?_
      refine ifd (fun h1 => ret_gives (bad fun k => by have := hprev k; omega) rfl) (fun h4 => ?_)
      have hlt : ∀ j c', j + 1 = i → l[j]? = some c' → c'.var < x.var := fun j c' hj hc' => by
        have e : j = i - 1 := by omega
        rw [e, hc] at hc'
        cases hc'; omega
      refine num64 (by omega) (by omega) ⟨i + 1, ⟨by omega, next ⟨⟨by omega, by omega⟩, by omega, hlt⟩⟩, by omega, ⟨⟨rfl, rfl, rfl, rfl, trivial⟩, trivial, rfl, rfl⟩⟩
    · have hlt : ∀ j c', j + 1 = i → l[j]? = some c' → c'.var < x.var := fun j c' hj _ => by omega
      refine num64 (by omega) (by omega) ⟨i + 1, ⟨by omega, next ⟨⟨by omega, by omega⟩, by omega, hlt⟩⟩, by omega, ⟨⟨rfl, rfl, rfl, rfl, trivial⟩, trivial, rfl, rfl⟩⟩
  · refine ifd (fun h0 => ?_) (fun h0 => ?_)
    · obtain ⟨c, hc⟩ := at_some (l := l) (i := i - 1) (by omega)
      obtain ⟨ad2, p2, hel2, _⟩ := VK.elem hsl hc
      have hprev : kokAt l i x → c.var < x.var := fun k => k.2.2 (i - 1) c (by omega) hc
      refine num_eq (x := ((i - 1 : Nat) : Int)) (by rw [wrap64 (by omega) (by omega)]; omega) ?_
      refine elem_intro hel2 ?_
      refine ifd (fun h1 => ret_gives (bad fun k => by have := hprev k; omega) rfl) (fun h4 => ?_)
      have hlt : ∀ j c', j + 1 = i → l[j]? = some c' → c'.var < x.var := fun j c' hj hc' => by
        have e : j = i - 1 := by omega
        rw [e, hc] at hc'
        cases hc'; omega
      refine num64 (by omega) (by omega) ⟨i + 1, ⟨by omega, next ⟨⟨by omega, by omega⟩, by omega, hlt⟩⟩, by omega, ⟨⟨rfl, rfl, rfl, rfl, trivial⟩, trivial, rfl, rfl⟩⟩
    · have hlt : ∀ j c', j + 1 = i → l[j]? = some c' → c'.var < x.var := fun j c' hj _ => by omega
      refine num64 (by omega) (by omega) ⟨i + 1, ⟨by omega, next ⟨⟨by omega, by omega⟩, by omega, hlt⟩⟩, by omega, ⟨⟨rfl, rfl, rfl, rfl, trivial⟩, trivial, rfl, rfl⟩⟩
theorem spec_KindsOk_spec {l : List VK} {base : Option Addr} {cap : Nat} (hsl : Sl μ 2 base l.length (l.map VK.d)) : Gives Try.prog 82 [.slice base l.length cap] μ (.bool (decide (kindsOk l))) := by
  have hn := maxLen_le hsl.max
  refine Spec.mk Try.func82 (by kernel_rfl) ?_
  refine loop_intro (fun i : Nat => i ≤ l.length ∧ ∀ j k, j < i → l[j]? = some k → kokAt l j k) (fun i => ⟨[(0, .val (.slice base l.length cap)), (5, .val (.slice base l.length cap)), (6, .val (.int .i64 l.length)), (7, .val (.int .i64 i))], [], 0, μ, Mem.nil⟩) (fun i => l.length - i)
    0 ⟨by omega, fun j k hj => by omega⟩ (fun i => ⟨rfl, rfl⟩) ⟨⟨rfl, rfl, rfl, rfl, trivial⟩, trivial, rfl, rfl⟩ ?_
  rintro i ⟨hi, hall⟩
  refine ifd (fun h => ?_) (fun h => ?_)
  rotate_left
  · obtain rfl : i = l.length := by omega
    exact ret_gives (isT fun j k hk => hall j k (List.getElem?_eq_some_iff.1 hk).1 hk) rfl
  obtain ⟨x, hx⟩ := at_some (l := l) (i := i) (by omega)
  obtain ⟨ad, p, hel, hr⟩ := VK.elem hsl hx
  have bad : ¬ kokAt l i x → Value.bool false = .bool (decide (kindsOk l)) := fun k => isF fun hv => k (hv i x hx)
  have next : kokAt l i x → ∀ j k, j < i + 1 → l[j]? = some k → kokAt l j k := fun h0 j k hj hk => by
    rcases Nat.lt_or_ge j i with h6 | h6
    · exact hall j k h6 hk
    · obtain rfl : j = i := by omega
      rw [hx] at hk; cases hk; exact h0
  refine elem_intro hel ?_
  intro r
  refine ifd (fun h0 => ?_) (fun h0 => ?_)
  · obtain ⟨c, hc⟩ := at_some (l := l) (i := i - 1) (by omega)
    obtain ⟨ad2, p2, hel2, _⟩ := VK.elem hsl hc
    have hprev : kokAt l i x → c.var < x.var := fun k => k.2.2 (i - 1) c (by omega) hc
    refine num_eq (x := ((i - 1 : Nat) : Int)) (by rw [wrap64 (by omega) (by omega)]; omega) ?_
    refine elem_intro hel2 ?_
    refine ifd (fun h1 => ret_gives (bad fun k => by have := hprev k; omega) rfl) (fun h4 => ?_)
    have hlt : ∀ j c', j + 1 = i → l[j]? = some c' → c'.var < x.var := fun j c' hj hc' => by
      have e : j = i - 1 := by omega
      rw [e, hc] at hc'
      cases hc'; omega
    refine call_gives (l01In_spec _ _ _ _) ?_
    refine ifnd (fun h => ret_gives (bad fun k => h ⟨k.1.1, k.1.2⟩) rfl) (fun h3 => ?_)
    refine ifnd (fun h5 => ?_) (fun h5 => ?_)
    · refine ifnd (fun h6 => ret_gives (bad fun k => by have := k.2.1; omega) rfl) (fun h6 => ?_)
      refine num64 (by omega) (by omega) ⟨i + 1, ⟨by omega, next ⟨⟨by omega, by omega⟩, by omega, hlt⟩⟩, by omega, ⟨⟨rfl, rfl, rfl, rfl, trivial⟩, trivial, rfl, rfl⟩⟩
    · refine num64 (by omega) (by omega) ⟨i + 1, ⟨by omega, next ⟨⟨by omega, by omega⟩, by omega, hlt⟩⟩, by omega, ⟨⟨rfl, rfl, rfl, rfl, trivial⟩, trivial, rfl, rfl⟩⟩
  · have hlt : ∀ j c', j + 1 = i → l[j]? = some c' → c'.var < x.var := fun j c' hj _ => by omega
    refine call_gives (l01In_spec _ _ _ _) ?_
    refine ifnd (fun h => ret_gives (bad fun k => h ⟨k.1.1, k.1.2⟩) rfl) (fun h3 => ?_)
    refine ifnd (fun h5 => ?_) (fun h5 => ?_)
    · refine ifnd (fun h6 => ret_gives (bad fun k => by have := k.2.1; omega) rfl) (fun h6 => ?_)
      refine num64 (by omega) (by omega) ⟨i + 1, ⟨by omega, next ⟨⟨by omega, by omega⟩, by omega, hlt⟩⟩, by omega, ⟨⟨rfl, rfl, rfl, rfl, trivial⟩, trivial, rfl, rfl⟩⟩
    · refine num64 (by omega) (by omega) ⟨i + 1, ⟨by omega, next ⟨⟨by omega, by omega⟩, by omega, hlt⟩⟩, by omega, ⟨⟨rfl, rfl, rfl, rfl, trivial⟩, trivial, rfl, rfl⟩⟩
end
end Go.Vx

/- Contracts: a kind asked of a term: the reference's side. -/
namespace Go.Vx
open Go.Proofs Classical
open Go.Sort
theorem AscK.ins {l : List VK} {y : VK} {i : Nat} (h : AscK l) (hi : i ≤ l.length) (h1 : ∀ j c, j < i → l[j]? = some c → c.var < y.var) (h2 : ∀ j c, i ≤ j → l[j]? = some c → y.var < c.var) : AscK (insAt l y i) := by
  have g1 : ∀ a ∈ l.take i, a.var < y.var := fun a ha => by
    obtain ⟨j, hj⟩ := List.mem_iff_getElem?.1 ha
    have hji : j < i := by
      have := (List.getElem?_eq_some_iff.1 hj).1
      rw [List.length_take] at this; omega
    rw [List.getElem?_take_of_lt hji] at hj
    exact h1 j a hji hj
  have g2 : ∀ a ∈ l.drop i, y.var < a.var := fun a ha => by
    obtain ⟨j, hj⟩ := List.mem_iff_getElem?.1 ha
    rw [List.getElem?_drop] at hj
    exact h2 (i + j) a (by omega) hj
  unfold insAt AscK
  rw [List.pairwise_append, List.pairwise_append]
  refine ⟨h.sublist (List.take_sublist _ _), ⟨List.pairwise_singleton _ _, h.sublist (List.drop_sublist _ _), fun a ha c hc => ?_⟩, fun a ha c hc => ?_⟩
  · rw [List.mem_singleton] at ha; subst ha; exact g2 c hc
  · rcases List.mem_append.1 hc with hc | hc
    · rw [List.mem_singleton] at hc; subst hc; exact g1 a ha
    · have := g1 a ha; have := g2 c hc; omega
/-- The reference's answer: the list, and whether it holds. -/
def HasK (μ : Mem) (o : Option (List VK)) (r : Value) : Prop := ∃ tv b, r = .tuple #[tv, .bool b] ∧ (match o with
  | some l => b = true ∧ RepV μ (.sl 2 (l.map VK.d)) tv
  | none => b = false ∧ ∃ l : List VK, RepV μ (.sl 2 (l.map VK.d)) tv)
section
variable {μ : Mem}
theorem VK.repV (y : VK) : RepV μ y.d (.agg #[.int .i64 y.var, .int .i64 y.kind]) := by
  rw [VK.d_eq]
  exact ⟨_, rfl, RepS.int (RepS.int rfl)⟩
theorem Rep.srcAll {es n cap : Nat} {base : Option Addr} {ds : List D} (h : RepV μ (.sl es ds) (.slice base n cap)) : ∃ vs, Rows μ es ds vs ∧ vs.length = n ∧ SrcAt μ base n es vs := by
  obtain ⟨vs, hrows, hvl, hcap, hsrc⟩ := Rep.src h
  have := hsrc 0 n (Nat.zero_le _) (Nat.le_refl _)
  have e1 : (if cap = 0 then base else base.map (·.add (0 * es))) = base := by
    split
    · rfl
    · cases base with
      | none => rfl
      | some a => simp [Addr.add]
  rw [e1, Nat.sub_zero, List.drop_zero, List.take_of_length_le (by omega)] at this
  exact ⟨vs, hrows, hvl, this⟩
theorem l10Kind_spec {l : List VK} {x : T} {v vx : Value} {k : Int} (hv : RepV μ (.sl 2 (l.map VK.d)) v) (hx : RepV μ x.tm.d vx) (hok : kindsOk l) :
    Spec Try.prog 90 [v, vx, .int .i64 k] μ fun r μ' => HasK μ' (addK1 l x k) r := by
  have hlen := kinds_len hok
  have hasc := hok.asc
  have hv0 := hv
  obtain ⟨base, cap, rfl, hsl⟩ := Rep.sl hv
  rw [List.length_map] at hsl hv hv0 ⊢
  obtain ⟨ba, ca, rfl, _⟩ := T.inv hx
  obtain ⟨vs, hrows, hvl, hcap, hsrc⟩ := Rep.src hv
  refine Spec.mk Try.func90 (by kernel_rfl) ?_
  intro r4
  refine ifnd (fun h1 => ?_) (fun h1 => ?_)
  · refine ret_plain ⟨_, _, rfl, ?_⟩
    rw [addK1, if_neg h1]
    by_cases h2 : x.tm.kind = k
    · rw [if_pos h2]; exact ⟨decide_eq_true h2, hv0⟩
    · rw [if_neg h2]; exact ⟨decide_eq_false h2, l, hv0⟩
  refine loop_intro (fun i : Nat => i ≤ l.length ∧ ∀ j c, j < i → l[j]? = some c → c.var < x.tm.num)
    (fun i => ⟨[(0, .val (.slice base l.length cap)), (2, .val (.int .i64 k)), (4, .loc 0 r4 0), (8, .val (.int .i64 i))], [(0, some (.cells r4 [.val (.int .i64 x.tm.kind), .val (.int .i64 x.tm.num), .val (.string x.tm.name), .val (.slice ba x.args.length ca)] 66))], 1, μ, Mem.nil⟩) (fun i => l.length - i)
    0 ⟨by omega, fun j c hj => by omega⟩ (fun _ => ⟨rfl, rfl⟩) ⟨⟨rfl, rfl, rfl, rfl, trivial⟩, ⟨rfl, trivial⟩, rfl, rfl⟩ ?_
  rintro i ⟨hi, hlt⟩
  refine ifd (fun h2 => ?_) (fun h2 => ?_)
  · obtain ⟨c, hc⟩ := at_some (l := l) (i := i) (by omega)
    obtain ⟨ad, p, hel, _⟩ := VK.elem hsl hc
    refine elem_intro hel ?_
    refine ifd (fun h3 => ?_) (fun h3 => ?_)
    · refine num64 (by omega) (by omega) ⟨i + 1, ⟨by omega, fun j d hj hd => ?_⟩, by omega, ⟨⟨rfl, rfl, rfl, rfl, trivial⟩, ⟨rfl, trivial⟩, rfl, rfl⟩⟩
      rcases Nat.lt_or_ge j i with h6 | h6
      · exact hlt j d h6 hd
      · obtain rfl : j = i := by omega
        rw [hc] at hd; cases hd; exact h3
    refine ifd (fun _ => ?_) (fun h => absurd h2 h)
    refine elem_intro hel ?_
    refine ifd (fun h4 => ?_) (fun h4 => ?_)
    · have hlook : lookK l x.tm.num = some c.kind := lookK_at (i := i) (fun j d hj hd e => by have := hlt j d hj hd; omega) hc h4
      refine elem_intro hel ?_
      refine ret_plain ⟨_, _, rfl, ?_⟩
      rw [addK1, if_pos h1, hlook]
      dsimp only
      by_cases h5 : c.kind = k
      · rw [if_pos h5]; exact ⟨decide_eq_true h5, hv0⟩
      · rw [if_neg h5]; exact ⟨decide_eq_false h5, l, hv0⟩
    · have hgt : ∀ j d, i ≤ j → l[j]? = some d → x.tm.num < d.var := fun j d hj hd => by
        rcases Nat.lt_or_ge i j with h6 | h6
        · have := hasc.at i j c d h6 hc hd; omega
        · obtain rfl : j = i := by omega
          rw [hc] at hd; cases hd; omega
      have hlook : lookK l x.tm.num = none := lookK_none fun d hd e => by
        obtain ⟨j, hj⟩ := List.mem_iff_getElem?.1 hd
        rcases Nat.lt_or_ge j i with h6 | h6
        · have := hlt j d h6 hj; omega
        · have := hgt j d h6 hj; omega
      have hS : insAt l ⟨x.tm.num, k⟩ i = sortK (l ++ [⟨x.tm.num, k⟩]) := sortK_uniq (insAt_perm _ _ _) (hasc.ins hi hlt hgt)
      intro r0
      refine cut_intro 0 i rfl (by omega) (by omega) (by omega) ?_
      refine src_intro _ (hsrc 0 i (by omega) hi) ?_
      refine grow_intro ?_ ?_ fun b1 c1 _ => ?_
      · show (0 + _) * 16 ≤ _; simp; omega
      · exact Nat.le_trans (m := 2000000000) (by simp; omega) (by decide)
      intro r1
      refine grow_intro ?_ ?_ fun b2 c2 _ => ?_
      · show (_ + 1) * 16 ≤ _; simp; omega
      · exact Nat.le_trans (m := 2000000000) (by simp; omega) (by decide)
      refine cut_intro i l.length (by omega) rfl hi (by omega) ?_
      refine src_intro _ (hsrc i l.length hi (Nat.le_refl _)) ?_
      refine grow_intro ?_ ?_ fun b3 c3 _ => ?_
      · show (_ + _) * 16 ≤ _; simp; omega
      · exact Nat.le_trans (m := 3000000000) (by simp; omega) (by decide)
      refine ret_frz [1] fun μ' hle hno hrow => .inl ⟨_, _, rfl, ?_⟩
      rw [addK1, if_pos h1, hlook]
      dsimp only
      refine ⟨rfl, ?_⟩
      rw [← hS]
      have hr2 := ((hrows.take i).append ((Rows.one (VK.repV ⟨x.tm.num, k⟩) (VK.d_n _)).append (hrows.drop i))).mono hle
      have e : (([] : List Value) ++ (vs.drop 0).take (i - 0) ++ [.agg #[.int .i64 x.tm.num, .int .i64 k]] ++ (vs.drop i).take (l.length - i)) = vs.take i ++ ([.agg #[.int .i64 x.tm.num, .int .i64 k]] ++ vs.drop i) := by
        simp
        rw [List.take_of_length_le (by simp; omega)]
      rw [e] at hrow ⊢
      have e2 : (insAt l ⟨x.tm.num, k⟩ i).map VK.d = (l.map VK.d).take i ++ ([VK.d ⟨x.tm.num, k⟩] ++ (l.map VK.d).drop i) := by simp [insAt]
      rw [e2]
      exact Rows.sl hrow hr2 (Nat.le_trans (m := 3000000000) (by simp; omega) (by decide))
  · obtain rfl : i = l.length := by omega
    have hgt : ∀ j d, l.length ≤ j → l[j]? = some d → x.tm.num < d.var := fun j d hj hd => by
      have := (List.getElem?_eq_some_iff.1 hd).1; omega
    refine ifd (fun h => absurd h h2) (fun _ => ?_)
    obtain ⟨i, hie⟩ : ∃ i, i = l.length := ⟨_, rfl⟩
    have hi : i ≤ l.length := by omega
    rw [← hie] at hlt hgt
    have hcast : ((l.length : Nat) : Int) = (i : Int) := by rw [hie]
    have hlook : lookK l x.tm.num = none := lookK_none fun d hd e => by
      obtain ⟨j, hj⟩ := List.mem_iff_getElem?.1 hd
      rcases Nat.lt_or_ge j i with h6 | h6
      · have := hlt j d h6 hj; omega
      · have := hgt j d h6 hj; omega
    have hS : insAt l ⟨x.tm.num, k⟩ i = sortK (l ++ [⟨x.tm.num, k⟩]) := sortK_uniq (insAt_perm _ _ _) (hasc.ins hi hlt hgt)
    intro r0
    refine cut_intro 0 i rfl (by omega) (by omega) (by omega) ?_
    refine src_intro _ (hsrc 0 i (by omega) hi) ?_
    refine grow_intro ?_ ?_ fun b1 c1 _ => ?_
    · show (0 + _) * 16 ≤ _; simp; omega
    · exact Nat.le_trans (m := 2000000000) (by simp; omega) (by decide)
    intro r1
    refine grow_intro ?_ ?_ fun b2 c2 _ => ?_
    · show (_ + 1) * 16 ≤ _; simp; omega
    · exact Nat.le_trans (m := 2000000000) (by simp; omega) (by decide)
    refine cut_intro i l.length (by omega) rfl hi (by omega) ?_
    refine src_intro _ (hsrc i l.length hi (Nat.le_refl _)) ?_
    refine grow_intro ?_ ?_ fun b3 c3 _ => ?_
    · show (_ + _) * 16 ≤ _; simp; omega
    · exact Nat.le_trans (m := 3000000000) (by simp; omega) (by decide)
    refine ret_frz [1] fun μ' hle hno hrow => .inl ⟨_, _, rfl, ?_⟩
    rw [addK1, if_pos h1, hlook]
    dsimp only
    refine ⟨rfl, ?_⟩
    rw [← hS]
    have hr2 := ((hrows.take i).append ((Rows.one (VK.repV ⟨x.tm.num, k⟩) (VK.d_n _)).append (hrows.drop i))).mono hle
    have e : (([] : List Value) ++ (vs.drop 0).take (i - 0) ++ [.agg #[.int .i64 x.tm.num, .int .i64 k]] ++ (vs.drop i).take (l.length - i)) = vs.take i ++ ([.agg #[.int .i64 x.tm.num, .int .i64 k]] ++ vs.drop i) := by
      simp
      rw [List.take_of_length_le (by simp; omega)]
    rw [e] at hrow ⊢
    have e2 : (insAt l ⟨x.tm.num, k⟩ i).map VK.d = (l.map VK.d).take i ++ ([VK.d ⟨x.tm.num, k⟩] ++ (l.map VK.d).drop i) := by simp [insAt]
    rw [e2]
    exact Rows.sl hrow hr2 (Nat.le_trans (m := 3000000000) (by simp; omega) (by decide))
theorem appl_good {s : List Bd} {t : Tm} {x : T} (h1 : substOk s) (h2 : t.Ok) (h : fit (t.toT.subst (sub (s.map Bd.b))) = some x) : x.good := by
  obtain ⟨bs, rfl, hbs⟩ := h1.subst
  rw [B.map_b] at h
  obtain ⟨_, rfl⟩ := fit_some.1 h
  exact T.good_subst (fun n y hy => (sub_ok hbs.vals.tok hy).1) h2.toT.1.1
theorem spec_AddKind_spec {s : List Bd} {l : List VK} {t : Tm} {v : Value} {k : Int} {base base2 : Option Addr} {cap cap2 : Nat} (hs : Sl μ 5 base s.length (s.map Bd.d)) (hws : D.wds (s.map Bd.d)) (hl : RepV μ (.sl 2 (l.map VK.d)) (.slice base2 l.length cap2)) (ht : RepV μ t.d v) (hwt : t.d.wd) :
    Spec Try.prog 37 [.slice base s.length cap, .slice base2 l.length cap2, v, .int .i64 k] μ fun r μ' => optVK (fun y tv => RepV μ' (.sl 2 (y.map VK.d)) tv) (addK s l t k) r := by
  obtain ⟨pt, rfl⟩ := Tm.invV ht
  refine Spec.mk Try.func37 (by kernel_rfl) ?_
  intro r4
  refine call_plain (spec_ApplySubst_spec hs hws ht hwt) fun v1 μ1 hle1 hR => ?_
  cases hf : appl s t with
  | none =>
    rw [hf] at hR
    obtain rfl := hR
    intro r10
    refine if_intro (fun _ => ?_) (fun h => nomatch h)
    refine ret_plain ?_
    have : addK s l t k = none := by
      unfold addK
      split
      · rename_i h
        have e : appl s t = fit (t.toT.subst (sub (s.map Bd.b))) := by rw [appl, if_pos ⟨h.1, h.2.1⟩]
        rw [← e, hf]; rfl
      · rfl
    rw [this]; rfl
  | some x =>
    rw [hf] at hR
    obtain ⟨tv, rfl, htv⟩ := hR
    obtain ⟨q, rfl⟩ := Tm.invV htv
    intro r10
    refine if_intro (fun h => nomatch h) (fun _ => ?_)
    have hst : substOk s ∧ t.Ok ∧ fit (t.toT.subst (sub (s.map Bd.b))) = some x := by
      unfold appl at hf
      split at hf
      · rename_i h; exact ⟨h.1, h.2, hf⟩
      · cases hf
    have hlm := hl.mono hle1
    obtain ⟨bq, cq, eq1, hslq⟩ := Rep.sl hlm
    rw [List.length_map] at hslq eq1
    obtain ⟨rfl, _, rfl⟩ := Value.slice.inj eq1
    refine call_gives (spec_KindsOk_spec hslq) ?_
    refine ifnd (fun h => ret_plain (by rw [addK, if_neg fun k => h k.2.2.1]; rfl)) (fun hk => ?_)
    refine ifnd (fun h5 => ?_) (fun h5 => ?_)
    · refine ifnd (fun h6 => ret_plain (by rw [addK, if_neg fun k => by have := k.2.2.2; omega]; rfl)) (fun h6 => ?_)
      have hadd : addK s l t k = addK1 l x k := by rw [addK, if_pos ⟨hst.1, hst.2.1, hk, .inr h6⟩, hst.2.2]; rfl
      rw [hadd]
      refine call_plain (l10Kind_spec hlm htv hk) fun v2 μ2 hle2 hR2 => ?_
      obtain ⟨tv2, b, rfl, hR2⟩ := hR2
      cases ha : addK1 l x k with
      | none =>
        rw [ha] at hR2
        obtain ⟨rfl, _⟩ := hR2
        refine if_intro (fun _ => ?_) (fun h => nomatch h)
        exact ret_plain rfl
      | some l' =>
        rw [ha] at hR2
        obtain ⟨rfl, hR2⟩ := hR2
        refine if_intro (fun h => nomatch h) (fun _ => ?_)
        obtain ⟨b9, c9, rfl, hs9⟩ := Rep.sl hR2
        rw [List.length_map] at hs9 hR2 ⊢
        obtain ⟨vs, hrows, hvl, hsrc⟩ := Rep.srcAll hR2
        intro r44
        refine src_intro _ hsrc ?_
        have hl' := kinds_len (addK1_ok hk (appl_good hst.1 hst.2.1 hst.2.2) (by omega) ha).1
        refine grow_intro ?_ ?_ fun b1 c1 _ => ?_
        · show (0 + _) * 16 ≤ _; simp; omega
        · exact Nat.le_trans (m := 2000000000) (by simp; omega) (by decide)
        refine ret_frz [2] fun μ' hle hno hrow => .inl ⟨_, rfl, ?_⟩
        exact Rows.sl hrow (hrows.mono hle) (Nat.le_trans (m := 3000000000) (by simp; omega) (by decide))
    · have hadd : addK s l t k = addK1 l x k := by rw [addK, if_pos ⟨hst.1, hst.2.1, hk, .inl h5⟩, hst.2.2]; rfl
      rw [hadd]
      refine call_plain (l10Kind_spec hlm htv hk) fun v2 μ2 hle2 hR2 => ?_
      obtain ⟨tv2, b, rfl, hR2⟩ := hR2
      cases ha : addK1 l x k with
      | none =>
        rw [ha] at hR2
        obtain ⟨rfl, _⟩ := hR2
        refine if_intro (fun _ => ?_) (fun h => nomatch h)
        exact ret_plain rfl
      | some l' =>
        rw [ha] at hR2
        obtain ⟨rfl, hR2⟩ := hR2
        refine if_intro (fun h => nomatch h) (fun _ => ?_)
        obtain ⟨b9, c9, rfl, hs9⟩ := Rep.sl hR2
        rw [List.length_map] at hs9 hR2 ⊢
        obtain ⟨vs, hrows, hvl, hsrc⟩ := Rep.srcAll hR2
        intro r44
        refine src_intro _ hsrc ?_
        have hl' := kinds_len (addK1_ok hk (appl_good hst.1 hst.2.1 hst.2.2) (by omega) ha).1
        refine grow_intro ?_ ?_ fun b1 c1 _ => ?_
        · show (0 + _) * 16 ≤ _; simp; omega
        · exact Nat.le_trans (m := 2000000000) (by simp; omega) (by decide)
        refine ret_frz [2] fun μ' hle hno hrow => .inl ⟨_, rfl, ?_⟩
        exact Rows.sl hrow (hrows.mono hle) (Nat.le_trans (m := 3000000000) (by simp; omega) (by decide))
end
end Go.Vx

/- Contracts: a kind asked of a term: the program's side. -/
namespace Go.Vx
open Go.Proofs Classical
open Go.Sort
def VK.v (k : VK) : Value := .agg #[.int .i64 k.var, .int .i64 k.kind]
noncomputable instance : Inhabited VK := ⟨⟨0, 0⟩⟩
theorem slVarKind : SlTy 52 122 Try.t52 Try.t122 25 := ⟨by kernel_rfl, by kernel_rfl, by kernel_rfl, by kernel_rfl, fun _ => by kernel_rfl, by kernel_rfl⟩
def ltK (a b : VK) : Bool := decide (a.var < b.var)
theorem swo_ltK : SWO ltK := ⟨fun x => by simp [ltK], fun x y z h1 h2 => by simp only [ltK, decide_eq_true_eq] at *; omega, fun x y z h1 h2 => by simp only [ltK, decide_eq_false_iff_not] at *; omega⟩
theorem vks_els (l : List VK) : ∀ y ∈ l.map VK.v, (vcells y).length = 2 ∧ ∀ u ∈ vcells y, u.oneCell' = true := fun y hy => by
  obtain ⟨k, _, rfl⟩ := List.mem_map.1 hy
  refine ⟨rfl, fun u hu => ?_⟩
  simp only [VK.v, vcells, List.mem_cons, List.not_mem_nil, or_false] at hu
  rcases hu with rfl | rfl <;> rfl
theorem vks_own : ∀ l : List VK, OwnRows 2 (l.map VK.d) (l.map VK.v) Mem.nil
  | [] => OwnRows.nil 2
  | k :: l => by
    obtain ⟨h1, h2, h3⟩ := vks_own l
    refine ⟨?_, fun x hx => ?_, by simp⟩
    · simp only [List.map_cons, List.flatMap_cons]
      exact OwnS.cons (Parts.nil_left _) (by rw [VK.d_eq]; exact OwnS.int (OwnS.int OwnS.nil)) h1
    · simp only [List.map_cons, List.mem_cons] at hx
      rcases hx with rfl | hx
      · exact VK.d_n k
      · exact h2 x hx
section
variable {μ : Mem}
theorem vks_rows : ∀ {l : List VK} {ys : List Value}, Rows μ 2 (l.map VK.d) ys → ys = l.map VK.v
  | [], _, h => by cases h; rfl
  | k :: l, _, h => by
    cases h with
    | cons h1 h2 h3 =>
      obtain ⟨_, e⟩ := VK.invV h1
      rw [e, vks_rows h3]; rfl
/-- A row of kinds in owned memory is data that nobody else holds. -/
theorem vks_fresh {μ1 h : Mem} {r c : Nat} {ty : TypeId} {l : List VK} (hb : RowO h r c ty 2 (l.map VK.v)) (hap : Apart μ1 h) (hle : μ.Le μ1) (hn : l.length ≤ 100000000) : Fresh μ (μ1.join h) (.sl 2 (l.map VK.d)) (.slice (some ⟨r, 0, none⟩) l.length c) := by
  obtain ⟨cs, hcell, hlen0, hcap, hone, hcs, htake⟩ := hb
  have hb2 : μ1 r = none := by
    cases e : μ1 r with
    | none => rfl
    | some o => have := hap r (by simp [e]); rw [hcell] at this; cases this
  have := Fresh.ofRow (μ := μ) (μ1 := μ1) (μ' := μ1.join h) (b := some r) (cap := c) (vks_own l) (fun _ _ h => nomatch h) (fun _ h => absurd rfl h) hle (Mem.le_join _ _) (fun r' e => by cases e; exact hb2)
    ⟨hlen0, hone, _, _, by rw [Mem.join_get, hb2]; exact hcell, by simpa using hcs, by simpa using htake⟩ (Nat.le_trans (m := 100000000) (by simpa using hn) (by decide))
  rwa [List.length_map] at this
end
section
variable {μ h0 : Mem} {r : Nat} {ty : TypeId} {rest : List Value}
theorem AddKind1_spec {rs n cap i j : Nat} {d : Array VK} (hs : h0 rs = some (.cells #[.slice (some ⟨r, 0, none⟩) n cap] 52 (0, 0))) (hne : rs ≠ r) (hn : d.size = n) (hi : i < n) (hj : j < n) :
    SpecH Try.prog 94 [.int .i64 i, .int .i64 j, .pointer (some ⟨rs, 0, none⟩)] μ (RowV h0 r ty rest (d.map VK.v)) fun v μ' h' => v = .bool (ltK d[i]! d[j]!) ∧ μ' = μ ∧ h' = RowV h0 r ty rest (d.map VK.v) := by
  have hv : ∀ k, k < n → (vcells (d.map VK.v)[k]!)[0]? = some (.int .i64 d[k]!.var) := fun k hk => by
    rw [map_get (by omega)]; rfl
  have hE : Els 2 (d.map VK.v) := fun x hx => vks_els d.toList x (by simpa using hx)
  have hrs : RowV h0 r ty rest (d.map VK.v) rs = some (.cells #[.slice (some ⟨r, 0, none⟩) n cap] 52 (0, 0)) := (Mem.set_ne hne).trans hs
  refine SpecH.mk [] Try.func94 (by kernel_rfl) ?_
  refine own_intro [.slice (some ⟨r, 0, none⟩) n cap] rfl (box_at hrs) ?_
  refine idxV i rfl hi ?_
  refine rdV hE (by simpa [hn] using hi) (hv i hi) ?_
  refine own_intro [.slice (some ⟨r, 0, none⟩) n cap] rfl (box_at hrs) ?_
  refine idxV j rfl hj ?_
  refine rdV hE (by simpa [hn] using hj) (hv j hj) ?_
  exact ret_plain ⟨rfl, rfl, rfl⟩
end
section
variable {μ : Mem}
set_option maxHeartbeats 4000000 in
theorem impl_AddKind_spec {s : List Bd} {l : List VK} {t : Tm} {v : Value} {k : Int} {base base2 : Option Addr} {cap cap2 : Nat} (hs : Sl μ 5 base s.length (s.map Bd.d)) (hl : RepV μ (.sl 2 (l.map VK.d)) (.slice base2 l.length cap2)) (ht : RepV μ t.d v) :
    Spec Try.prog 39 [.slice base s.length cap, .slice base2 l.length cap2, v, .int .i64 k] μ fun r μ' => optVK (fun y tv => Fresh μ μ' (.sl 2 (y.map VK.d)) tv) (addK s l t k) r := by
  obtain ⟨pt, rfl⟩ := Tm.invV ht
  have hlm := hl
  obtain ⟨bq, cq, eq1, hslq⟩ := Rep.sl hlm
  rw [List.length_map] at hslq eq1
  obtain ⟨rfl, _, rfl⟩ := Value.slice.inj eq1
  refine Spec.mkO [44, 12] Try.func39 (by kernel_rfl) ?_
  intro r6
  refine call_gives (impl_SubstOk_spec hs) ?_
  refine ifnd (fun h => ret_plain (by rw [addK, if_neg fun k => h k.1]; rfl)) (fun h1 => ?_)
  refine call_gives (impl_TermOk_spec t ht) ?_
  refine ifnd (fun h => ret_plain (by rw [addK, if_neg fun k => h k.2.1]; rfl)) (fun h2 => ?_)
  refine call_gives (impl_KindsOk_spec hslq) ?_
  refine ifnd (fun h => ret_plain (by rw [addK, if_neg fun k => h k.2.2.1]; rfl)) (fun hk => ?_)
  refine ifnd (fun h5 => ?_) (fun h5 => ?_)
  · refine ifnd (fun h6 => ret_plain (by rw [addK, if_neg fun k => by have := k.2.2.2; omega]; rfl)) (fun h6 => ?_)
    have hkk : k = 2 ∨ k = 3 := .inr h6
    have hadd : addK s l t k = (fit (t.toT.subst (sub (s.map Bd.b)))).bind fun x => addK1 l x k := by rw [addK, if_pos ⟨h1, h2, hk, hkk⟩]
    rw [hadd]
    have hxg := fun x => appl_good (x := x) h1 h2
    clear hadd
    obtain ⟨x0, _, rfl⟩ := h2.lift
    obtain ⟨bs, rfl, hbs⟩ := h1.subst
    rw [List.length_map] at hs ⊢
    rw [T.toT_tm, B.map_b] at hxg ⊢
    have hlen := hbs.vals.len
    have hkl := kinds_len hk
    refine call_plain (put_spec x0 hbs.vals.srt (by omega) hbs.vals.tok hs ht) fun v1 μ1 hle1 hR => ?_
    cases hf : fit (x0.subst (sub bs)) with
    | none =>
      rw [hf] at hR
      obtain rfl := hR
      intro r10
      refine if_intro (fun _ => ?_) (fun h => nomatch h)
      exact ret_plain rfl
    | some x =>
      rw [hf] at hR
      rw [Option.bind_some]
      obtain ⟨tv, rfl, htv⟩ := hR
      obtain ⟨qb, qc, rfl, _⟩ := T.inv htv.rep
      intro r10
      refine if_intro (fun h => nomatch h) (fun _ => ?_)
      obtain ⟨ys, hrows, hyl, hsrc⟩ := Rep.srcAll (hl.mono hle1)
      obtain rfl := vks_rows hrows
      intro r44 hm44 ho44
      refine src_intro _ hsrc ?_
      refine app_intro [] rfl ⟨[], Mem.set_at _ _ _, by simp, by simp, by simp, rfl, rfl⟩ ?_ ?_ fun b1 c1 o1 hrow1 hor1 => ?_
      · show (0 + _) * 16 ≤ _; simp; omega
      · exact Nat.le_trans (m := 2000000000) (by simp; omega) (by decide)
      generalize hH1 : Mem.set (Mem.set _ r44 _) b1 o1 = H1
      have hB1 : RowO H1 b1 c1 122 2 (l.map VK.v) := by rw [← hH1]; exact hrow1
      have hap1 : Apart μ1 H1 := by
        rw [← hH1]
        refine ((apart_nil μ1).set hm44).set ?_
        rcases hor1 with rfl | h
        · exact hm44
        · exact h.2
      clear hrow1 hor1 hH1 hm44 ho44
      have hN : 0 + (l.map VK.v).length = l.length := by simp
      intro r12 hm12 ho12
      have hne : b1 ≠ r12 := fun e => by
        subst e
        obtain ⟨cs, h, _⟩ := hB1
        have : H1 b1 = none := ho12
        rw [h] at this; cases this
      refine sto_intro [.slice none 0 0] 52 (Mem.set_at _ _ _) rfl (Nat.le_refl _) ?_
      dsimp only at hm12 ho12
      generalize hH2 : Mem.set (Mem.set H1 r12 _) r12 _ = H
      have hB : RowO H b1 c1 122 2 (l.map VK.v) := by subst hH2; exact (hB1.set_ne hne).set_ne hne
      have hC : H r12 = some (.cells #[.slice (some ⟨b1, 0, none⟩) (0 + (l.map VK.v).length) c1] 52 (0, 0)) := by subst hH2; exact Mem.set_at _ _ _
      have hA : Apart μ1 H := by subst hH2; exact (hap1.set hm12).set hm12
      clear hH2 hB1 hap1 hm12 ho12
      refine ifnd (fun g1 => ?_) (fun g1 => ?_)
      · refine ifnd (fun g2 => ?_) (fun g2 => ?_)
        · refine ret_own _ Mem.nil (Parts.nil_right _) ?_
          rw [addK1, if_neg g1, if_neg g2]; rfl
        · refine own_intro [.slice (some ⟨b1, 0, none⟩) (0 + (l.map VK.v).length) c1] rfl (box_at hC) ?_
          refine ret_own _ Mem.nil (Parts.nil_right _) ?_
          rw [addK1, if_neg g1, if_pos g2]
          exact ⟨_, rfl, by rw [hN]; exact vks_fresh hB hA hle1 (by omega)⟩
      refine loop_intro (fun i : Nat => i ≤ l.length ∧ ∀ j c, j < i → l[j]? = some c → c.var ≠ x.tm.num)
        (fun i => ⟨[(3, .val (.int .i64 k)), (10, .loc 1 r10 0), (12, .val (.pointer (some ⟨r12, 0, none⟩))), (55, .val (.slice base2 l.length cap2)), (56, .val (.int .i64 l.length)), (57, .val (.int .i64 i))], [(1, some (.cells r10 [.val (.int .i64 x.tm.kind), .val (.int .i64 x.tm.num), .val (.string x.tm.name), .val (.slice qb x.args.length qc)] 66))], 2, μ1, H⟩) (fun i => l.length - i)
        0 ⟨by omega, fun j c hj => by omega⟩ (fun _ => ⟨rfl, rfl⟩) ⟨⟨rfl, rfl, rfl, rfl, rfl, rfl, trivial⟩, ⟨rfl, trivial⟩, rfl, rfl⟩ ?_
      rintro i ⟨hi, hno⟩
      refine ifd (fun hlt => ?_) (fun hlt => ?_)
      · obtain ⟨c, hc⟩ := at_some (l := l) (i := i) (by omega)
        obtain ⟨ad, p, hel, _⟩ := VK.elem (hslq.mono hle1) hc
        refine elem_intro hel ?_
        intro r14
        refine ifd (fun g2 => ?_) (fun g2 => ?_)
        · have hlook : lookK l x.tm.num = some c.kind := lookK_at (i := i) hno hc g2
          refine ifnd (fun g3 => ?_) (fun g3 => ?_)
          · refine ret_own _ Mem.nil (Parts.nil_right _) ?_
            rw [addK1, if_pos g1, hlook]
            dsimp only
            rw [if_neg g3]; rfl
          · refine own_intro [.slice (some ⟨b1, 0, none⟩) (0 + (l.map VK.v).length) c1] rfl (box_at hC) ?_
            refine ret_own _ Mem.nil (Parts.nil_right _) ?_
            rw [addK1, if_pos g1, hlook]
            dsimp only
            rw [if_pos g3]
            exact ⟨_, rfl, by rw [hN]; exact vks_fresh hB hA hle1 (by omega)⟩
        · refine num64 (by omega) (by omega) ⟨i + 1, ⟨by omega, fun j d hj hd => ?_⟩, by omega, ⟨⟨rfl, rfl, rfl, rfl, rfl, rfl, trivial⟩, ⟨rfl, trivial⟩, rfl, rfl⟩⟩
          rcases Nat.lt_or_ge j i with h6 | h6
          · exact hno j d h6 hd
          · obtain rfl : j = i := by omega
            rw [hc] at hd; cases hd; exact g2
      obtain rfl : i = l.length := by omega
      have hlook : lookK l x.tm.num = none := lookK_none fun d hd e => by
        obtain ⟨j, hj⟩ := List.mem_iff_getElem?.1 hd
        exact hno j d (List.getElem?_eq_some_iff.1 hj).1 hj e
      have hfin : addK1 l x k = some (sortK (l ++ [⟨x.tm.num, k⟩])) := by rw [addK1, if_pos g1, hlook]
      have hok := (addK1_ok hk (hxg x hf) hkk hfin).1
      rw [hfin]
      generalize hy : (⟨x.tm.num, k⟩ : VK) = y at *
      refine own_intro [.slice (some ⟨b1, 0, none⟩) (0 + (l.map VK.v).length) c1] rfl (box_at hC) ?_
      intro r77
      refine app_intro (l.map VK.v) (by simp) hB ?_ ?_ fun b2 c2 o2 hrow2 hor2 => ?_
      · show (_ + 1) * 16 ≤ _; omega
      · exact Nat.le_trans (m := 2000000000) (show _ + 1 ≤ _ by omega) (by decide)
      have hA2 : Apart μ1 (H.set b2 o2) := hA.set (apartB hB hA hor2)
      have hne2 : r12 ≠ b2 := fun e => by
        subst e
        rcases hor2 with e | ⟨e, _⟩
        · exact hne e.symm
        · have e : H r12 = none := e
          rw [hC] at e; cases e
      refine sto_intro [.slice (some ⟨b1, 0, none⟩) (0 + (l.map VK.v).length) c1] 52 ((Mem.set_ne hne2).trans hC) rfl (Nat.le_refl _) ?_
      have hrow3 : RowO (H.set b2 o2) b2 c2 122 2 ((l ++ [y]).map VK.v) := by
        subst hy
        rw [List.map_append]; exact hrow2
      obtain ⟨N2, hN2⟩ : ∃ N2, N2 = 0 + (l.map VK.v).length + 1 := ⟨_, rfl⟩
      generalize hH3 : Mem.set (Mem.set H b2 o2) r12 _ = H3
      have hB3 : RowO H3 b2 c2 122 2 ((l ++ [y]).map VK.v) := by subst hH3; exact hrow3.set_ne hne2.symm
      have hC3 : H3 r12 = some (.cells #[.slice (some ⟨b2, 0, none⟩) (0 + (l.map VK.v).length + 1) c2] 52 (0, 0)) := by subst hH3; exact Mem.set_at _ _ _
      have hA3 : Apart μ1 H3 := by
        subst hH3
        refine hA2.set ?_
        cases e : μ1 r12 with
        | none => rfl
        | some o => have := hA r12 (by simp [e]); rw [hC] at this; cases this
      clear hH3 hrow3 hA2 hrow2 hor2
      obtain ⟨cs, hcell, hlen0, hcap0, hone, hcs, htake⟩ := hB3
      obtain ⟨rest, rfl⟩ : ∃ rest, cs = ((l ++ [y]).map VK.v).flatMap vcells ++ rest := by
        refine ⟨cs.drop (((l ++ [y]).map VK.v).length * 2), ?_⟩
        conv => lhs; rw [← List.take_append_drop (((l ++ [y]).map VK.v).length * 2) cs, htake]
      obtain ⟨h0, hh0, hh1, hsplit⟩ : ∃ h0 : Mem, h0 b2 = none ∧ h0 r12 = H3 r12 ∧ H3 = RowV h0 b2 122 rest ((l ++ [y]).toArray.map VK.v) := by
        refine ⟨fun q => if q = b2 then none else H3 q, if_pos rfl, if_neg hne2, funext fun q => ?_⟩
        rw [RowV, Mem.set_get]
        by_cases e : q = b2
        · subst e; rw [if_pos rfl, hcell]; simp
        · rw [if_neg e, if_neg e]
      rw [hC3] at hh1
      have hC4 : RowV h0 b2 122 rest ((l ++ [y]).toArray.map VK.v) r12 = some (.cells #[.slice (some ⟨b2, 0, none⟩) (0 + (l.map VK.v).length + 1) c2] 52 (0, 0)) := (Mem.set_ne hne2).trans hh1
      clear hcell
      subst hsplit
      refine own_intro [.slice (some ⟨b2, 0, none⟩) (0 + (l.map VK.v).length + 1) c2] rfl (box_at hC4) ?_
      have hsz : (l ++ [y]).toArray.size = 0 + (l.map VK.v).length + 1 := by simp
      have hE : Els 2 ((l ++ [y]).toArray.map VK.v) := fun z hz => vks_els (l ++ [y]) z (by simpa using hz)
      refine call_own (SortSlice_spec (lb := [.pointer (some ⟨r12, 0, none⟩)]) (enc := VK.v) slVarKind (ttok.get rfl) (fun h => nomatch h) hE hsz (by omega) swo_ltK fun {μ' d i j} _ hV hi hj => AddKind1_spec hh1 hne2 (hV.1.trans hsz) hi hj) fun v5 μ2 h2' hle2 hap2 hR5 => ?_
      obtain ⟨rfl, d', p1, p2, rfl⟩ := hR5
      have hC5 : RowV h0 b2 122 rest (d'.map VK.v) r12 = some (.cells #[.slice (some ⟨b2, 0, none⟩) (0 + (l.map VK.v).length + 1) c2] 52 (0, 0)) := (Mem.set_ne hne2).trans hh1
      refine own_intro [.slice (some ⟨b2, 0, none⟩) (0 + (l.map VK.v).length + 1) c2] rfl (box_at hC5) ?_
      have hds : d'.size = 0 + (l.map VK.v).length + 1 := p1.1.trans hsz
      have hperm : d'.toList.Perm (l ++ [y]) := permIn_list hsz p1
      have hS : d'.toList = sortK (l ++ [y]) := by
        refine sortK_uniq hperm (AscK.of_le ?_ ((hperm.map _).nodup_iff.2 ?_))
        · rw [List.pairwise_iff_getElem]
          intro a b' ha hb' hab
          have ha : a < d'.size := by simpa using ha
          have hb' : b' < d'.size := by simpa using hb'
          have := p2 a b' (Nat.zero_le _) hab (by omega)
          rw [getElem!_pos d' a (by omega), getElem!_pos d' b' (by omega)] at this
          simp only [ltK, decide_eq_false_iff_not] at this
          simp only [Array.getElem_toList]
          exact Int.not_lt.1 this
        · rw [List.map_append, List.nodup_append]
          refine ⟨hk.asc.nodup, by simp, fun a ha b hb e => ?_⟩
          obtain ⟨c, hc, rfl⟩ := List.mem_map.1 ha
          simp only [List.map_cons, List.map_nil, List.mem_singleton] at hb
          subst hy
          exact lookK_none_iff hlook c hc (e.trans hb)
      rw [← hS]
      refine ret_own _ Mem.nil (Parts.nil_right _) ?_
      refine ⟨_, rfl, ?_⟩
      have hdl : d'.toList.length = 0 + (l.map VK.v).length + 1 := by simpa using hds
      have hB6 : RowO (RowV h0 b2 122 rest (d'.map VK.v)) b2 c2 122 2 (d'.toList.map VK.v) := by
        have h5 : (((l ++ [y]).map VK.v).flatMap vcells).length = ((l ++ [y]).map VK.v).length * 2 := flat_len _ fun z hz => (vks_els _ z hz).1
        have h6 : ((d'.toList.map VK.v).flatMap vcells).length = (d'.toList.map VK.v).length * 2 := flat_len _ fun z hz => (vks_els _ z hz).1
        have h7 : (d'.toList.map VK.v).length = ((l ++ [y]).map VK.v).length := by
          rw [List.length_map, List.length_map]; exact hperm.length_eq
        refine ⟨(d'.toList.map VK.v).flatMap vcells ++ rest, by rw [RowV, Mem.set_at]; simp, by rw [h7]; exact hlen0, hcap0, vks_els _, ?_, ?_⟩
        · rw [List.length_append] at hcs ⊢; omega
        · rw [← h6, List.take_left]
      have F := vks_fresh (μ := μ) hB6 hap2 (hle1.trans hle2) (by rw [hdl]; omega)
      rw [hdl] at F
      exact F
  · have hkk : k = 2 ∨ k = 3 := .inl h5
    have hadd : addK s l t k = (fit (t.toT.subst (sub (s.map Bd.b)))).bind fun x => addK1 l x k := by rw [addK, if_pos ⟨h1, h2, hk, hkk⟩]
    rw [hadd]
    have hxg := fun x => appl_good (x := x) h1 h2
    clear hadd
    obtain ⟨x0, _, rfl⟩ := h2.lift
    obtain ⟨bs, rfl, hbs⟩ := h1.subst
    rw [List.length_map] at hs ⊢
    rw [T.toT_tm, B.map_b] at hxg ⊢
    have hlen := hbs.vals.len
    have hkl := kinds_len hk
    refine call_plain (put_spec x0 hbs.vals.srt (by omega) hbs.vals.tok hs ht) fun v1 μ1 hle1 hR => ?_
    cases hf : fit (x0.subst (sub bs)) with
    | none =>
      rw [hf] at hR
      obtain rfl := hR
      intro r10
      refine if_intro (fun _ => ?_) (fun h => nomatch h)
      exact ret_plain rfl
    | some x =>
      rw [hf] at hR
      rw [Option.bind_some]
      obtain ⟨tv, rfl, htv⟩ := hR
      obtain ⟨qb, qc, rfl, _⟩ := T.inv htv.rep
      intro r10
      refine if_intro (fun h => nomatch h) (fun _ => ?_)
      obtain ⟨ys, hrows, hyl, hsrc⟩ := Rep.srcAll (hl.mono hle1)
      obtain rfl := vks_rows hrows
      intro r44 hm44 ho44
      refine src_intro _ hsrc ?_
      refine app_intro [] rfl ⟨[], Mem.set_at _ _ _, by simp, by simp, by simp, rfl, rfl⟩ ?_ ?_ fun b1 c1 o1 hrow1 hor1 => ?_
      · show (0 + _) * 16 ≤ _; simp; omega
      · exact Nat.le_trans (m := 2000000000) (by simp; omega) (by decide)
      generalize hH1 : Mem.set (Mem.set _ r44 _) b1 o1 = H1
      have hB1 : RowO H1 b1 c1 122 2 (l.map VK.v) := by rw [← hH1]; exact hrow1
      have hap1 : Apart μ1 H1 := by
        rw [← hH1]
        refine ((apart_nil μ1).set hm44).set ?_
        rcases hor1 with rfl | h
        · exact hm44
        · exact h.2
      clear hrow1 hor1 hH1 hm44 ho44
      have hN : 0 + (l.map VK.v).length = l.length := by simp
      intro r12 hm12 ho12
      have hne : b1 ≠ r12 := fun e => by
        subst e
        obtain ⟨cs, h, _⟩ := hB1
        have : H1 b1 = none := ho12
        rw [h] at this; cases this
      refine sto_intro [.slice none 0 0] 52 (Mem.set_at _ _ _) rfl (Nat.le_refl _) ?_
      dsimp only at hm12 ho12
      generalize hH2 : Mem.set (Mem.set H1 r12 _) r12 _ = H
      have hB : RowO H b1 c1 122 2 (l.map VK.v) := by subst hH2; exact (hB1.set_ne hne).set_ne hne
      have hC : H r12 = some (.cells #[.slice (some ⟨b1, 0, none⟩) (0 + (l.map VK.v).length) c1] 52 (0, 0)) := by subst hH2; exact Mem.set_at _ _ _
      have hA : Apart μ1 H := by subst hH2; exact (hap1.set hm12).set hm12
      clear hH2 hB1 hap1 hm12 ho12
      refine ifnd (fun g1 => ?_) (fun g1 => ?_)
      · refine ifnd (fun g2 => ?_) (fun g2 => ?_)
        · refine ret_own _ Mem.nil (Parts.nil_right _) ?_
          rw [addK1, if_neg g1, if_neg g2]; rfl
        · refine own_intro [.slice (some ⟨b1, 0, none⟩) (0 + (l.map VK.v).length) c1] rfl (box_at hC) ?_
          refine ret_own _ Mem.nil (Parts.nil_right _) ?_
          rw [addK1, if_neg g1, if_pos g2]
          exact ⟨_, rfl, by rw [hN]; exact vks_fresh hB hA hle1 (by omega)⟩
      refine loop_intro (fun i : Nat => i ≤ l.length ∧ ∀ j c, j < i → l[j]? = some c → c.var ≠ x.tm.num)
        (fun i => ⟨[(3, .val (.int .i64 k)), (10, .loc 1 r10 0), (12, .val (.pointer (some ⟨r12, 0, none⟩))), (55, .val (.slice base2 l.length cap2)), (56, .val (.int .i64 l.length)), (57, .val (.int .i64 i))], [(1, some (.cells r10 [.val (.int .i64 x.tm.kind), .val (.int .i64 x.tm.num), .val (.string x.tm.name), .val (.slice qb x.args.length qc)] 66))], 2, μ1, H⟩) (fun i => l.length - i)
        0 ⟨by omega, fun j c hj => by omega⟩ (fun _ => ⟨rfl, rfl⟩) ⟨⟨rfl, rfl, rfl, rfl, rfl, rfl, trivial⟩, ⟨rfl, trivial⟩, rfl, rfl⟩ ?_
      rintro i ⟨hi, hno⟩
      refine ifd (fun hlt => ?_) (fun hlt => ?_)
      · obtain ⟨c, hc⟩ := at_some (l := l) (i := i) (by omega)
        obtain ⟨ad, p, hel, _⟩ := VK.elem (hslq.mono hle1) hc
        refine elem_intro hel ?_
        intro r14
        refine ifd (fun g2 => ?_) (fun g2 => ?_)
        · have hlook : lookK l x.tm.num = some c.kind := lookK_at (i := i) hno hc g2
          refine ifnd (fun g3 => ?_) (fun g3 => ?_)
          · refine ret_own _ Mem.nil (Parts.nil_right _) ?_
            rw [addK1, if_pos g1, hlook]
            dsimp only
            rw [if_neg g3]; rfl
          · refine own_intro [.slice (some ⟨b1, 0, none⟩) (0 + (l.map VK.v).length) c1] rfl (box_at hC) ?_
            refine ret_own _ Mem.nil (Parts.nil_right _) ?_
            rw [addK1, if_pos g1, hlook]
            dsimp only
            rw [if_pos g3]
            exact ⟨_, rfl, by rw [hN]; exact vks_fresh hB hA hle1 (by omega)⟩
        · refine num64 (by omega) (by omega) ⟨i + 1, ⟨by omega, fun j d hj hd => ?_⟩, by omega, ⟨⟨rfl, rfl, rfl, rfl, rfl, rfl, trivial⟩, ⟨rfl, trivial⟩, rfl, rfl⟩⟩
          rcases Nat.lt_or_ge j i with h6 | h6
          · exact hno j d h6 hd
          · obtain rfl : j = i := by omega
            rw [hc] at hd; cases hd; exact g2
      obtain rfl : i = l.length := by omega
      have hlook : lookK l x.tm.num = none := lookK_none fun d hd e => by
        obtain ⟨j, hj⟩ := List.mem_iff_getElem?.1 hd
        exact hno j d (List.getElem?_eq_some_iff.1 hj).1 hj e
      have hfin : addK1 l x k = some (sortK (l ++ [⟨x.tm.num, k⟩])) := by rw [addK1, if_pos g1, hlook]
      have hok := (addK1_ok hk (hxg x hf) hkk hfin).1
      rw [hfin]
      generalize hy : (⟨x.tm.num, k⟩ : VK) = y at *
      refine own_intro [.slice (some ⟨b1, 0, none⟩) (0 + (l.map VK.v).length) c1] rfl (box_at hC) ?_
      intro r77
      refine app_intro (l.map VK.v) (by simp) hB ?_ ?_ fun b2 c2 o2 hrow2 hor2 => ?_
      · show (_ + 1) * 16 ≤ _; omega
      · exact Nat.le_trans (m := 2000000000) (show _ + 1 ≤ _ by omega) (by decide)
      have hA2 : Apart μ1 (H.set b2 o2) := hA.set (apartB hB hA hor2)
      have hne2 : r12 ≠ b2 := fun e => by
        subst e
        rcases hor2 with e | ⟨e, _⟩
        · exact hne e.symm
        · have e : H r12 = none := e
          rw [hC] at e; cases e
      refine sto_intro [.slice (some ⟨b1, 0, none⟩) (0 + (l.map VK.v).length) c1] 52 ((Mem.set_ne hne2).trans hC) rfl (Nat.le_refl _) ?_
      have hrow3 : RowO (H.set b2 o2) b2 c2 122 2 ((l ++ [y]).map VK.v) := by
        subst hy
        rw [List.map_append]; exact hrow2
      obtain ⟨N2, hN2⟩ : ∃ N2, N2 = 0 + (l.map VK.v).length + 1 := ⟨_, rfl⟩
      generalize hH3 : Mem.set (Mem.set H b2 o2) r12 _ = H3
      have hB3 : RowO H3 b2 c2 122 2 ((l ++ [y]).map VK.v) := by subst hH3; exact hrow3.set_ne hne2.symm
      have hC3 : H3 r12 = some (.cells #[.slice (some ⟨b2, 0, none⟩) (0 + (l.map VK.v).length + 1) c2] 52 (0, 0)) := by subst hH3; exact Mem.set_at _ _ _
      have hA3 : Apart μ1 H3 := by
        subst hH3
        refine hA2.set ?_
        cases e : μ1 r12 with
        | none => rfl
        | some o => have := hA r12 (by simp [e]); rw [hC] at this; cases this
      clear hH3 hrow3 hA2 hrow2 hor2
      obtain ⟨cs, hcell, hlen0, hcap0, hone, hcs, htake⟩ := hB3
      obtain ⟨rest, rfl⟩ : ∃ rest, cs = ((l ++ [y]).map VK.v).flatMap vcells ++ rest := by
        refine ⟨cs.drop (((l ++ [y]).map VK.v).length * 2), ?_⟩
        conv => lhs; rw [← List.take_append_drop (((l ++ [y]).map VK.v).length * 2) cs, htake]
      obtain ⟨h0, hh0, hh1, hsplit⟩ : ∃ h0 : Mem, h0 b2 = none ∧ h0 r12 = H3 r12 ∧ H3 = RowV h0 b2 122 rest ((l ++ [y]).toArray.map VK.v) := by
        refine ⟨fun q => if q = b2 then none else H3 q, if_pos rfl, if_neg hne2, funext fun q => ?_⟩
        rw [RowV, Mem.set_get]
        by_cases e : q = b2
        · subst e; rw [if_pos rfl, hcell]; simp
        · rw [if_neg e, if_neg e]
      rw [hC3] at hh1
      have hC4 : RowV h0 b2 122 rest ((l ++ [y]).toArray.map VK.v) r12 = some (.cells #[.slice (some ⟨b2, 0, none⟩) (0 + (l.map VK.v).length + 1) c2] 52 (0, 0)) := (Mem.set_ne hne2).trans hh1
      clear hcell
      subst hsplit
      refine own_intro [.slice (some ⟨b2, 0, none⟩) (0 + (l.map VK.v).length + 1) c2] rfl (box_at hC4) ?_
      have hsz : (l ++ [y]).toArray.size = 0 + (l.map VK.v).length + 1 := by simp
      have hE : Els 2 ((l ++ [y]).toArray.map VK.v) := fun z hz => vks_els (l ++ [y]) z (by simpa using hz)
      refine call_own (SortSlice_spec (lb := [.pointer (some ⟨r12, 0, none⟩)]) (enc := VK.v) slVarKind (ttok.get rfl) (fun h => nomatch h) hE hsz (by omega) swo_ltK fun {μ' d i j} _ hV hi hj => AddKind1_spec hh1 hne2 (hV.1.trans hsz) hi hj) fun v5 μ2 h2' hle2 hap2 hR5 => ?_
      obtain ⟨rfl, d', p1, p2, rfl⟩ := hR5
      have hC5 : RowV h0 b2 122 rest (d'.map VK.v) r12 = some (.cells #[.slice (some ⟨b2, 0, none⟩) (0 + (l.map VK.v).length + 1) c2] 52 (0, 0)) := (Mem.set_ne hne2).trans hh1
      refine own_intro [.slice (some ⟨b2, 0, none⟩) (0 + (l.map VK.v).length + 1) c2] rfl (box_at hC5) ?_
      have hds : d'.size = 0 + (l.map VK.v).length + 1 := p1.1.trans hsz
      have hperm : d'.toList.Perm (l ++ [y]) := permIn_list hsz p1
      have hS : d'.toList = sortK (l ++ [y]) := by
        refine sortK_uniq hperm (AscK.of_le ?_ ((hperm.map _).nodup_iff.2 ?_))
        · rw [List.pairwise_iff_getElem]
          intro a b' ha hb' hab
          have ha : a < d'.size := by simpa using ha
          have hb' : b' < d'.size := by simpa using hb'
          have := p2 a b' (Nat.zero_le _) hab (by omega)
          rw [getElem!_pos d' a (by omega), getElem!_pos d' b' (by omega)] at this
          simp only [ltK, decide_eq_false_iff_not] at this
          simp only [Array.getElem_toList]
          exact Int.not_lt.1 this
        · rw [List.map_append, List.nodup_append]
          refine ⟨hk.asc.nodup, by simp, fun a ha b hb e => ?_⟩
          obtain ⟨c, hc, rfl⟩ := List.mem_map.1 ha
          simp only [List.map_cons, List.map_nil, List.mem_singleton] at hb
          subst hy
          exact lookK_none_iff hlook c hc (e.trans hb)
      rw [← hS]
      refine ret_own _ Mem.nil (Parts.nil_right _) ?_
      refine ⟨_, rfl, ?_⟩
      have hdl : d'.toList.length = 0 + (l.map VK.v).length + 1 := by simpa using hds
      have hB6 : RowO (RowV h0 b2 122 rest (d'.map VK.v)) b2 c2 122 2 (d'.toList.map VK.v) := by
        have h5 : (((l ++ [y]).map VK.v).flatMap vcells).length = ((l ++ [y]).map VK.v).length * 2 := flat_len _ fun z hz => (vks_els _ z hz).1
        have h6 : ((d'.toList.map VK.v).flatMap vcells).length = (d'.toList.map VK.v).length * 2 := flat_len _ fun z hz => (vks_els _ z hz).1
        have h7 : (d'.toList.map VK.v).length = ((l ++ [y]).map VK.v).length := by
          rw [List.length_map, List.length_map]; exact hperm.length_eq
        refine ⟨(d'.toList.map VK.v).flatMap vcells ++ rest, by rw [RowV, Mem.set_at]; simp, by rw [h7]; exact hlen0, hcap0, vks_els _, ?_, ?_⟩
        · rw [List.length_append] at hcs ⊢; omega
        · rw [← h6, List.take_left]
      have F := vks_fresh (μ := μ) hB6 hap2 (hle1.trans hle2) (by rw [hdl]; omega)
      rw [hdl] at F
      exact F
end
end Go.Vx

/- Contracts: kinds brought up to date. -/
namespace Go.Vx
open Go.Proofs Classical
noncomputable def refFrom (bs : List B) : List VK → List VK → Option (List VK)
  | [], acc => some acc
  | c :: r, acc => (addK1 acc ((T.var c.var).subst (sub bs)) c.kind).bind fun acc' => refFrom bs r acc'
/-- Kinds asked anew under a substitution. -/
noncomputable def refK (s : List Bd) (l : List VK) : Option (List VK) := if substOk s ∧ kindsOk l then refFrom (s.map Bd.b) l [] else none
theorem var_subst_ok {bs : List B} (h : ∀ b ∈ bs, b.to.ok) {n : Int} (hn : 0 ≤ n ∧ n ≤ 100000) : ((T.var n).subst (sub bs)).ok := by
  rw [T.subst]
  cases e : sub bs n with
  | none => exact ⟨hn, by show (T.var n).size ≤ 5000; simp [T.size]⟩
  | some y => exact sub_ok h e
theorem kindsOk_nil : kindsOk [] := fun i k h => by simp at h
section
variable {μ : Mem}
theorem l05Walk_spec {bs : List B} {base : Option Addr} {cap : Nat} (n : Int) (hsl : Sl μ 5 base bs.length ((bs.map B.bd).map Bd.d)) :
    Spec Try.prog 147 [.slice base bs.length cap, varV n] μ fun v μ' => RepV μ ((T.var n).subst (sub bs)).tm.d v ∧ μ' = μ := by
  refine Spec.mk Try.func147 (by kernel_rfl) ?_
  intro r3 r4
  refine ifd (fun _ => ?_) (fun h => absurd rfl h)
  refine call_plain (l04Get_spec hsl) fun v1 μ1 hle1 hR => ?_
  obtain ⟨hR, e5⟩ := hR
  obtain rfl := e5.symm
  cases hs : sub bs n with
  | none =>
    rw [hs] at hR
    obtain rfl := hR
    intro r5
    refine if_intro (fun h => nomatch h) (fun _ => ?_)
    refine ret_plain ⟨?_, rfl⟩
    rw [T.subst, hs]
    exact varV_rep n
  | some y =>
    rw [hs] at hR
    obtain ⟨tv, rfl, htv⟩ := hR
    obtain ⟨q, rfl⟩ := Tm.invV htv
    intro r5
    refine if_intro (fun _ => ?_) (fun h => nomatch h)
    refine ret_plain ⟨?_, rfl⟩
    rw [T.subst, hs]
    exact htv
theorem l10Kinds_spec {bs : List B} {l : List VK} {base base2 : Option Addr} {cap cap2 : Nat} (hbs : Subst bs) (hs : Sl μ 5 base bs.length ((bs.map B.bd).map Bd.d)) (hl : Sl μ 2 base2 l.length (l.map VK.d)) (hk : kindsOk l) :
    Spec Try.prog 83 [.slice base bs.length cap, .slice base2 l.length cap2] μ fun r μ' => optVK (fun y tv => RepV μ' (.sl 2 (y.map VK.d)) tv) (refFrom bs l []) r := by
  have hn := maxLen_le hl.max
  refine Spec.mkO [10] Try.func83 (by kernel_rfl) ?_
  generalize hO : refFrom bs l [] = O
  intro r10 hm10 ho10
  generalize hh : Mem.set _ r10 _ = h
  have hap0 : Apart μ h := by rw [← hh]; exact (apart_nil μ).set hm10
  clear hh hm10 ho10
  refine loop_intro (fun p : Nat × List VK × Value × Mem × Bool => p.1 ≤ l.length ∧ μ.Le p.2.2.2.1 ∧ Apart p.2.2.2.1 h ∧ kindsOk p.2.1 ∧ RepV p.2.2.2.1 (.sl 2 (p.2.1.map VK.d)) p.2.2.1 ∧ refFrom bs (l.drop p.1) p.2.1 = O)
    (fun (i, acc, v, μ', ok) => ⟨[(0, .val (.slice base bs.length cap)), (6, .val v), (7, .val (.bool ok)), (11, .val (.slice base2 l.length cap2)), (12, .val (.int .i64 l.length)), (13, .val (.int .i64 i))], [], 0, μ', h⟩) (fun p => l.length - p.1)
    (0, [], .slice (some ⟨r10, 0, none⟩) 0 0, μ, true) ⟨by simp, Mem.Le.refl _, hap0, kindsOk_nil, ⟨_, 0, rfl, ⟨Nat.zero_le _, Nat.zero_le _⟩, by simp, .inl rfl⟩, hO⟩ (fun (_, _, _, _, _) => ⟨rfl, rfl⟩) ⟨⟨rfl, rfl, rfl, rfl, rfl, rfl, trivial⟩, trivial, rfl, rfl⟩ ?_
  clear hO hap0
  rintro ⟨i, acc, v, μ', ok⟩ ⟨hi, hle, hap, hacc, hv, hJ⟩
  dsimp only at hi hle hap hacc hv hJ
  refine ifd (fun hlt => ?_) (fun hlt => ?_)
  · obtain ⟨c, hc⟩ := at_some (l := l) (i := i) (by omega)
    obtain ⟨ad, p, hel, _⟩ := VK.elem (hl.mono hle) hc
    obtain ⟨hg1, hg2, _⟩ := hk i c hc
    rw [drop_at hc, refFrom] at hJ
    refine elem_intro hel ?_
    intro r9
    refine call_gives (l02Var_spec _) ?_
    refine call_data hap (l05Walk_spec c.var (hs.mono hle)) fun v1 μ1 hle1 hap1 hR => ?_
    obtain ⟨hR, e5⟩ := hR
    obtain rfl := e5.symm
    obtain ⟨b9, c9, rfl, hs9⟩ := Rep.sl hv
    have hxo := var_subst_ok hbs.vals.tok hg1
    refine call_data hap (l10Kind_spec hv hR hacc) fun v2 μ2 hle2 hap2 hR2 => ?_
    obtain ⟨tv2, b, rfl, hR2⟩ := hR2
    cases ha : addK1 acc ((T.var c.var).subst (sub bs)) c.kind with
    | none =>
      rw [ha] at hR2 hJ
      obtain ⟨rfl, _⟩ := hR2
      obtain rfl : none = O := hJ
      refine if_intro (fun _ => ?_) (fun h => nomatch h)
      exact ret_own _ Mem.nil (Parts.nil_right _) rfl
    | some l' =>
      rw [ha] at hR2 hJ
      obtain ⟨rfl, hR2⟩ := hR2
      refine if_intro (fun h => nomatch h) (fun _ => ?_)
      refine num64 (by omega) (by omega) ⟨(i + 1, l', tv2, μ2, true), ⟨by dsimp only; omega, hle.trans hle2, hap2, (addK1_ok hacc hxo.1 hg2 ha).1, hR2, hJ⟩, by dsimp only; omega, ⟨⟨rfl, rfl, rfl, rfl, rfl, rfl, trivial⟩, trivial, rfl, rfl⟩⟩
  · obtain rfl : i = l.length := by omega
    rw [List.drop_length, refFrom] at hJ
    subst hJ
    exact ret_own _ Mem.nil (Parts.nil_right _) ⟨_, rfl, hv.mono (Mem.le_join _ _)⟩
theorem spec_RefreshKinds_spec {s : List Bd} {l : List VK} {base base2 : Option Addr} {cap cap2 : Nat} (hs : Sl μ 5 base s.length (s.map Bd.d)) (hws : D.wds (s.map Bd.d)) (hl : Sl μ 2 base2 l.length (l.map VK.d)) :
    Spec Try.prog 30 [.slice base s.length cap, .slice base2 l.length cap2] μ fun r μ' => optVK (fun y tv => RepV μ' (.sl 2 (y.map VK.d)) tv) (refK s l) r := by
  refine Spec.mk Try.func30 (by kernel_rfl) ?_
  refine call_gives (spec_SubstOk_spec hs hws) ?_
  refine ifnd (fun h => ret_plain (by rw [refK, if_neg fun k => h k.1]; rfl)) (fun h1 => ?_)
  refine call_gives (spec_KindsOk_spec hl) ?_
  refine ifnd (fun h => ret_plain (by rw [refK, if_neg fun k => h k.2]; rfl)) (fun h2 => ?_)
  have e : refK s l = refFrom (s.map Bd.b) l [] := by rw [refK, if_pos ⟨h1, h2⟩]
  rw [e]
  obtain ⟨bs, rfl, hbs⟩ := h1.subst
  rw [B.map_b]
  rw [List.length_map] at hs ⊢
  refine call_plain (l10Kinds_spec hbs hs hl h2) fun v1 μ1 hle1 hR => ?_
  cases hf : refFrom bs l [] with
  | none =>
    rw [hf] at hR
    obtain rfl := hR
    exact ret_plain rfl
  | some y =>
    rw [hf] at hR
    obtain ⟨tv, rfl, htv⟩ := hR
    exact ret_plain ⟨_, rfl, htv⟩
theorem impl_RefreshKinds_spec {s : List Bd} {l : List VK} {base base2 : Option Addr} {cap cap2 : Nat} (hs : Sl μ 5 base s.length (s.map Bd.d)) (hl : Sl μ 2 base2 l.length (l.map VK.d)) :
    Spec Try.prog 32 [.slice base s.length cap, .slice base2 l.length cap2] μ fun r μ' => optVK (fun y tv => Fresh μ μ' (.sl 2 (y.map VK.d)) tv) (refK s l) r := by
  have hn := maxLen_le hl.max
  refine Spec.mkO [19] Try.func32 (by kernel_rfl) ?_
  refine call_gives (impl_SubstOk_spec hs) ?_
  refine ifnd (fun h => ret_plain (by rw [refK, if_neg fun k => h k.1]; rfl)) (fun h1 => ?_)
  refine call_gives (impl_KindsOk_spec hl) ?_
  refine ifnd (fun h => ret_plain (by rw [refK, if_neg fun k => h k.2]; rfl)) (fun h2 => ?_)
  have e : refK s l = refFrom (s.map Bd.b) l [] := by rw [refK, if_pos ⟨h1, h2⟩]
  rw [e]
  generalize hO : refFrom (s.map Bd.b) l [] = O
  clear e
  intro r19 hm19 ho19
  generalize hh : Mem.set _ r19 _ = h
  have hap0 : Apart μ h := by rw [← hh]; exact (apart_nil μ).set hm19
  clear hh hm19 ho19
  refine loop_intro (fun p : Nat × List VK × Value × Mem => p.1 ≤ l.length ∧ μ.Le p.2.2.2 ∧ Apart p.2.2.2 h ∧ kindsOk p.2.1 ∧ Fresh μ p.2.2.2 (.sl 2 (p.2.1.map VK.d)) p.2.2.1 ∧ refFrom (s.map Bd.b) (l.drop p.1) p.2.1 = O)
    (fun (i, acc, v, μ') => ⟨[(0, .val (.slice base s.length cap)), (6, .val v), (20, .val (.slice base2 l.length cap2)), (21, .val (.int .i64 l.length)), (22, .val (.int .i64 i))], [], 0, μ', h⟩) (fun p => l.length - p.1)
    (0, [], .slice (some ⟨r19, 0, none⟩) 0 0, μ) ⟨by simp, Mem.Le.refl _, hap0, kindsOk_nil, ⟨Mem.nil, ⟨_, 0, rfl, ⟨Nat.zero_le _, Nat.zero_le _⟩, by simp, .inl ⟨rfl, rfl⟩⟩, (fun _ _ h => nomatch h), fun _ h => absurd rfl h⟩, hO⟩ (fun (_, _, _, _) => ⟨rfl, rfl⟩) ⟨⟨rfl, rfl, rfl, rfl, rfl, trivial⟩, trivial, rfl, rfl⟩ ?_
  clear hO hap0
  rintro ⟨i, acc, v, μ'⟩ ⟨hi, hle, hap, hacc, hv, hJ⟩
  dsimp only at hi hle hap hacc hv hJ
  refine ifd (fun hlt => ?_) (fun hlt => ?_)
  · obtain ⟨c, hc⟩ := at_some (l := l) (i := i) (by omega)
    obtain ⟨ad, p, hel, _⟩ := VK.elem (hl.mono hle) hc
    obtain ⟨hg1, hg2, _⟩ := h2 i c hc
    rw [drop_at hc, refFrom] at hJ
    have hvr := hv.rep
    obtain ⟨b9, c9, rfl, hs9⟩ := Rep.sl hvr
    rw [List.length_map] at hvr hv ⊢
    refine elem_intro hel ?_
    intro r8
    refine call_gives (variable_spec _) ?_
    have hok : (T.var c.var).tm.Ok := (var_ok hg1).tm
    have hxo : ((T.var c.var).subst (sub (s.map Bd.b))).ok := by
      obtain ⟨bs, rfl, hbs⟩ := h1.subst
      rw [B.map_b]
      exact var_subst_ok hbs.vals.tok hg1
    have hadd : addK s acc (T.var c.var).tm c.kind = addK1 acc ((T.var c.var).subst (sub (s.map Bd.b))) c.kind := by
      rw [addK, if_pos ⟨h1, hok, hacc, hg2⟩, T.toT_tm, fit, if_pos hxo.2]; rfl
    refine call_data hap (impl_AddKind_spec (hs.mono hle) hvr (varV_rep c.var)) fun v2 μ2 hle2 hap2 hR2 => ?_
    rw [hadd] at hR2
    cases ha : addK1 acc ((T.var c.var).subst (sub (s.map Bd.b))) c.kind with
    | none =>
      rw [ha] at hR2 hJ
      obtain rfl := hR2
      obtain rfl : none = O := hJ
      refine if_intro (fun _ => ?_) (fun h => nomatch h)
      exact ret_own _ Mem.nil (Parts.nil_right _) rfl
    | some l' =>
      rw [ha] at hR2 hJ
      obtain ⟨tv2, rfl, hR2⟩ := hR2
      refine if_intro (fun h => nomatch h) (fun _ => ?_)
      refine num64 (by omega) (by omega) ⟨(i + 1, l', tv2, μ2), ⟨by dsimp only; omega, hle.trans hle2, hap2, (addK1_ok hacc hxo.1 hg2 ha).1, hR2.mono hle (Mem.Le.refl _), hJ⟩, by dsimp only; omega, ⟨⟨rfl, rfl, rfl, rfl, rfl, trivial⟩, trivial, rfl, rfl⟩⟩
  · obtain rfl : i = l.length := by omega
    rw [List.drop_length, refFrom] at hJ
    subst hJ
    exact ret_own _ Mem.nil (Parts.nil_right _) ⟨_, rfl, hv.mono (Mem.Le.refl _) (Mem.le_join _ _)⟩
end
end Go.Vx

/- The laws on kinds. -/
namespace Go.Vx
open Go.Proofs Classical
section
variable {μ : Mem}
theorem vks_cnt : ∀ l : List VK, D.cnts (l.map VK.d) = 2 * l.length
  | [] => rfl
  | k :: l => by
    simp only [List.map_cons, D.cnts, List.length_cons]
    rw [VK.cnt_eq, vks_cnt l]; omega
def resVK (o : Option (List VK)) : List VK := o.getD []
theorem optVK_rep {μ : Mem} {o : Option (List VK)} {v : Value} (h : optVK (fun y tv => RepV μ (.sl 2 (y.map VK.d)) tv) o v) : ∃ tv, v = .tuple #[tv, .bool o.isSome] ∧ RepV μ (.sl 2 ((resVK o).map VK.d)) tv := by
  cases o with
  | some y => obtain ⟨tv, rfl, h⟩ := h; exact ⟨tv, rfl, h⟩
  | none => exact ⟨_, h, OwnV.rep (h := Mem.nil) (Own.nilSl 2) (fun _ _ h => nomatch h)⟩
theorem optVK_fresh {μ μ' : Mem} {o : Option (List VK)} {v : Value} (h : optVK (fun y tv => Fresh μ μ' (.sl 2 (y.map VK.d)) tv) o v) : ∃ tv, v = .tuple #[tv, .bool o.isSome] ∧ Fresh μ μ' (.sl 2 ((resVK o).map VK.d)) tv := by
  cases o with
  | some y => obtain ⟨tv, rfl, h⟩ := h; exact ⟨tv, rfl, h⟩
  | none => exact ⟨_, h, Mem.nil, Own.nilSl 2, (fun _ _ h => nomatch h), fun _ h => absurd rfl h⟩
theorem resK_cnt {o : Option (List VK)} (h : ∀ y, o = some y → kindsOk y) : D.cnts ((resVK o).map VK.d) ≤ 200002 := by
  cases o with
  | none => simp [resVK, D.cnts]
  | some y =>
    have := kinds_len (h y rfl)
    rw [resVK, Option.getD_some, vks_cnt]; omega
theorem refFrom_ok {bs : List B} (h : ∀ b ∈ bs, b.to.ok) : ∀ {l acc y : List VK}, (∀ k ∈ l, GoodK k) → kindsOk acc → refFrom bs l acc = some y → kindsOk y
  | [], acc, y, _, ha, e => by rw [refFrom] at e; cases e; exact ha
  | c :: l, acc, y, hl, ha, e => by
    rw [refFrom] at e
    have hc := hl c (by simp)
    cases hf : addK1 acc ((T.var c.var).subst (sub bs)) c.kind with
    | none => rw [hf] at e; cases e
    | some a2 =>
      rw [hf] at e
      exact refFrom_ok h (fun k hk => hl k (by simp [hk])) (addK1_ok ha (var_subst_ok h hc.1).1 hc.2 hf).1 e
theorem refK_ok {s : List Bd} {l y : List VK} (e : refK s l = some y) : kindsOk y := by
  unfold refK at e
  split at e
  · rename_i h
    obtain ⟨bs, rfl, hbs⟩ := h.1.subst
    rw [B.map_b] at e
    exact refFrom_ok hbs.vals.tok ((kindsOk_iff l).1 h.2).2 kindsOk_nil e
  · cases e
theorem addK_ok {s : List Bd} {l y : List VK} {t : Tm} {k : Int} (e : addK s l t k = some y) : kindsOk y := by
  unfold addK at e
  split at e
  · rename_i h
    cases hf : fit (t.toT.subst (sub (s.map Bd.b))) with
    | none => rw [hf] at e; cases e
    | some x =>
      rw [hf] at e
      exact (addK1_ok h.2.2.1 (appl_good h.1 h.2.1 hf) h.2.2.2 e).1
  · cases e
set_option maxHeartbeats 4000000 in
theorem FnExactRefreshKinds_spec {t0 : List Bd} {v0 : Value} {t1 : List VK} {v1 : Value} (h0 : RepV μ (.sl 5 (t0.map Bd.d)) v0) (h1 : RepV μ (.sl 2 (t1.map VK.d)) v1) (w0 : D.wds (t0.map Bd.d)) (w1 : D.wds (t1.map VK.d)) :
    Spec Try.prog 6 [v0, v1] μ fun r _ => r = .bool true := by
  obtain ⟨b0, c0, rfl, s0⟩ := Rep.sl h0
  rw [List.length_map] at s0 ⊢
  obtain ⟨b1, c1, rfl, s1⟩ := Rep.sl h1
  rw [List.length_map] at s1 ⊢
  refine Spec.mk Try.func6 (by kernel_rfl) ?_
  refine call_gives (szBindingS_spec s0 (by omega) (by omega) w0) ?_
  refine ifd (fun h => ret_plain rfl) (fun h => ?_)
  have q0 := szR_ge h
  rw [szR_pos q0] at h ⊢
  refine call_gives (szVarKindS_spec s1 (by omega) (by omega) w1) ?_
  refine ifd (fun h => ret_plain rfl) (fun h => ?_)
  have q1 := szR_ge h
  rw [szR_pos q1] at h
  have hb0 : t0.length + D.szs (t0.map Bd.d) ≤ 1048576 := by omega
  have hb1 : t1.length + D.szs (t1.map VK.d) ≤ 1048576 := by omega
  refine call_plain (toBindingS_spec s0 hb0) fun u1 μ1 hle1 hf1 => ?_
  replace s0 := s0.mono hle1
  replace s1 := s1.mono hle1
  obtain ⟨bb2, cc2, rfl, a0⟩ := Rep.sl hf1.rep
  rw [List.length_map] at a0 ⊢
  refine call_plain (toVarKindS_spec s1 hb1) fun u3 μ3 hle3 hf3 => ?_
  replace s0 := s0.mono hle3
  replace s1 := s1.mono hle3
  replace a0 := a0.mono hle3
  obtain ⟨bb4, cc4, rfl, a1⟩ := Rep.sl hf3.rep
  rw [List.length_map] at a1 ⊢
  refine call_plain (spec_RefreshKinds_spec a0 w0 a1) fun u5 μ5 hle5 hR => ?_
  replace s0 := s0.mono hle5
  replace s1 := s1.mono hle5
  replace a0 := a0.mono hle5
  replace a1 := a1.mono hle5
  obtain ⟨w0, rfl, hw0⟩ := optVK_rep hR
  obtain ⟨bb6, cc6, rfl, hw⟩ := Rep.sl hw0
  rw [List.length_map] at hw ⊢
  refine call_new id (apart_nil _) Owns.none ((toBindingS_spec (s0.mono (Mem.le_join _ _)) hb0).weaken fun v μ' _ h => ⟨v, rfl, h⟩) fun x0 μ7 H7 hle7 hap7 ho7 => ?_
  replace s0 := s0.mono hle7
  replace s1 := s1.mono hle7
  replace hw := hw.mono hle7
  obtain ⟨bb8, cc8, rfl, xx0⟩ := Rep.sl (Owns.rep (l1 := []) hap7 ho7)
  rw [List.length_map] at xx0 ho7 ⊢
  refine call_new id hap7 ho7 ((toVarKindS_spec (s1.mono (Mem.le_join _ _)) hb1).weaken fun v μ' _ h => ⟨v, rfl, h⟩) fun x1 μ9 H9 hle9 hap9 ho9 => ?_
  replace s0 := s0.mono hle9
  replace s1 := s1.mono hle9
  replace hw := hw.mono hle9
  obtain ⟨bb10, cc10, rfl, xx1⟩ := Rep.sl (Owns.rep (l1 := [_]) hap9 ho9)
  rw [List.length_map] at xx1 ho9 ⊢
  obtain ⟨bn13, cn13, en13, ya12⟩ := Rep.sl (Owns.rep (l1 := []) hap9 ho9)
  rw [List.length_map] at ya12 en13
  obtain ⟨rfl, _, rfl⟩ := Value.slice.inj en13
  obtain ⟨bn15, cn15, en15, ya14⟩ := Rep.sl (Owns.rep (l1 := [_]) hap9 ho9)
  rw [List.length_map] at ya14 en15
  obtain ⟨rfl, _, rfl⟩ := Value.slice.inj en15
  refine call_new (fun gv => .tuple #[gv, .bool (refK t0 t1).isSome]) hap9 ho9 ((impl_RefreshKinds_spec ya12 ya14).weaken fun v μ' _ h => optVK_fresh h) fun g0 μ11 H11 hle11 hap11 ho11 => ?_
  replace s0 := s0.mono hle11
  replace s1 := s1.mono hle11
  replace hw := hw.mono hle11
  obtain ⟨bb16, cc16, rfl, gg⟩ := Rep.sl (Owns.rep (l1 := [_, _]) hap11 ho11)
  rw [List.length_map] at gg ho11 ⊢
  obtain ⟨bn18, cn18, en18, yg17⟩ := Rep.sl (Owns.rep (l1 := [_, _]) hap11 ho11)
  rw [List.length_map] at yg17 en18
  obtain ⟨rfl, _, rfl⟩ := Value.slice.inj en18
  refine call_read hap11 (eqVarKindS_spec yg17 (hw.mono (Mem.le_join _ _))) ?_
  refine if_intro (fun h => nomatch h) (fun _ => ?_)
  refine if_intro (fun h => absurd h (by simp)) (fun _ => ?_)
  refine call_data hap11 (toBindingS_spec s0 hb0) fun u19 μ19 hle19 hap19 hf19 => ?_
  replace s0 := s0.mono hle19
  replace s1 := s1.mono hle19
  replace hw := hw.mono hle19
  obtain ⟨bb20, cc20, rfl, z0⟩ := Rep.sl hf19.rep
  rw [List.length_map] at z0 ⊢
  obtain ⟨bn22, cn22, en22, yb21⟩ := Rep.sl (Owns.rep (l1 := []) hap19 ho11)
  rw [List.length_map] at yb21 en22
  obtain ⟨rfl, _, rfl⟩ := Value.slice.inj en22
  refine call_read hap19 (eqBindingS_spec yb21 (z0.mono (Mem.le_join _ _))) ?_
  refine if_intro (fun h => nomatch h) (fun _ => ?_)
  refine call_data hap19 (toVarKindS_spec s1 hb1) fun u23 μ23 hle23 hap23 hf23 => ?_
  replace s0 := s0.mono hle23
  replace s1 := s1.mono hle23
  replace hw := hw.mono hle23
  obtain ⟨bb24, cc24, rfl, z1⟩ := Rep.sl hf23.rep
  rw [List.length_map] at z1 ⊢
  obtain ⟨bn26, cn26, en26, yb25⟩ := Rep.sl (Owns.rep (l1 := [_]) hap23 ho11)
  rw [List.length_map] at yb25 en26
  obtain ⟨rfl, _, rfl⟩ := Value.slice.inj en26
  refine call_read hap23 (eqVarKindS_spec yb25 (z1.mono (Mem.le_join _ _))) ?_
  refine if_intro (fun h => nomatch h) (fun _ => ?_)
  have ca0 := bds_cnt t0
  have ma0 := D.mks_cnt (t0.map Bd.d) (1)
  have ca1 := vks_cnt t1
  have ma1 := D.mks_cnt (t1.map VK.d) ((D.mks (t0.map Bd.d) (1)).2)
  have rz := resK_cnt fun y h => refK_ok (s := t0) (l := t1) h
  have mg := D.mks_cnt ((resVK (refK t0 t1)).map VK.d) 1
  refine call_mark (l1 := []) hap23 ho11 (fun hx o => markBindingS_spec o (by omega) (by omega)) fun H27 hap27 ho27 => ?_
  refine call_mark (l1 := [_]) hap27 ho27 (fun hx o => markVarKindS_spec o (by omega) (by omega)) fun H28 hap28 ho28 => ?_
  refine ifd (fun h => by omega) (fun _ => ?_)
  obtain ⟨bn30, cn30, en30, yg29⟩ := Rep.sl (Owns.rep (l1 := [_, _]) hap28 ho28)
  rw [List.length_map] at yg29 en30
  obtain ⟨rfl, _, rfl⟩ := Value.slice.inj en30
  refine call_read hap28 (eqVarKindS_spec yg29 (hw.mono (Mem.le_join _ _))) ?_
  refine if_intro (fun h => nomatch h) (fun _ => ?_)
  refine if_intro (fun h => absurd h (by simp)) (fun _ => ?_)
  refine call_mark (l1 := [_, _]) hap28 ho28 (fun hx o => markVarKindS_spec o (by omega) (by omega)) fun H31 hap31 ho31 => ?_
  refine call_read hap31 (heldVarKindS_spec (Owns.rep (l1 := [_, _]) hap31 ho31) (by omega) (by omega)) ?_
  refine ifd (fun h => by omega) (fun _ => ?_)
  refine ifnd (fun h => absurd rfl h) (fun _ => ?_)
  refine call_data hap31 (toBindingS_spec s0 hb0) fun u32 μ32 hle32 hap32 hf32 => ?_
  replace s0 := s0.mono hle32
  replace s1 := s1.mono hle32
  replace hw := hw.mono hle32
  obtain ⟨bb33, cc33, rfl, o0⟩ := Rep.sl hf32.rep
  rw [List.length_map] at o0 ⊢
  refine call_data hap32 (toVarKindS_spec s1 hb1) fun u34 μ34 hle34 hap34 hf34 => ?_
  replace s0 := s0.mono hle34
  replace s1 := s1.mono hle34
  replace hw := hw.mono hle34
  replace o0 := o0.mono hle34
  obtain ⟨bb35, cc35, rfl, o1⟩ := Rep.sl hf34.rep
  rw [List.length_map] at o1 ⊢
  refine call_data hap34 ((impl_RefreshKinds_spec o0 o1).weaken fun v μ' _ h => optVK_fresh h) fun u36 μ36 hle36 hap36 hR => ?_
  replace s0 := s0.mono hle36
  replace s1 := s1.mono hle36
  replace hw := hw.mono hle36
  replace o0 := o0.mono hle36
  replace o1 := o1.mono hle36
  obtain ⟨h0, rfl, hh0⟩ := hR
  obtain ⟨bb37, cc37, rfl, hh⟩ := Rep.sl hh0.rep
  rw [List.length_map] at hh ⊢
  refine call_read hap36 (eqVarKindS_spec (hh.mono (Mem.le_join _ _)) (hw.mono (Mem.le_join _ _))) ?_
  refine if_intro (fun h => nomatch h) (fun _ => ?_)
  refine if_intro (fun h => absurd h (by simp)) (fun _ => ?_)
  refine call_read hap36 (heldVarKindS_spec (Owns.rep (l1 := [_, _]) hap36 ho31) (by omega) (by omega)) ?_
  refine ifd (fun h => by omega) (fun _ => ?_)
  refine ifnd (fun h => absurd rfl h) (fun _ => ?_)
  exact ret_plain rfl
set_option maxHeartbeats 4000000 in
theorem FnExactAddKind_spec {t0 : List Bd} {v0 : Value} {t1 : List VK} {v1 : Value} {t2 : Tm} {v2 : Value} {k : Int} (h0 : RepV μ (.sl 5 (t0.map Bd.d)) v0) (h1 : RepV μ (.sl 2 (t1.map VK.d)) v1) (h2 : RepV μ t2.d v2) (w0 : D.wds (t0.map Bd.d)) (w1 : D.wds (t1.map VK.d)) (w2 : t2.d.wd) :
    Spec Try.prog 7 [v0, v1, v2, .int .i64 k] μ fun r _ => r = .bool true := by
  obtain ⟨b0, c0, rfl, s0⟩ := Rep.sl h0
  rw [List.length_map] at s0 ⊢
  obtain ⟨b1, c1, rfl, s1⟩ := Rep.sl h1
  rw [List.length_map] at s1 ⊢
  obtain ⟨p2, rfl⟩ := Tm.invV h2
  refine Spec.mk Try.func7 (by kernel_rfl) ?_
  intro r0
  refine call_gives (szBindingS_spec s0 (by omega) (by omega) w0) ?_
  refine ifd (fun h => ret_plain rfl) (fun h => ?_)
  have q0 := szR_ge h
  rw [szR_pos q0] at h ⊢
  refine call_gives (szVarKindS_spec s1 (by omega) (by omega) w1) ?_
  refine ifd (fun h => ret_plain rfl) (fun h => ?_)
  have q1 := szR_ge h
  rw [szR_pos q1] at h ⊢
  refine call_gives (szTerm_spec t2 h2 (by omega) (by omega) w2) ?_
  refine ifd (fun h => ret_plain rfl) (fun h => ?_)
  have q2 := szR_ge h
  rw [szR_pos q2] at h
  have hb0 : t0.length + D.szs (t0.map Bd.d) ≤ 1048576 := by omega
  have hb1 : t1.length + D.szs (t1.map VK.d) ≤ 1048576 := by omega
  have hb2 : t2.d.sz ≤ 1048576 := by omega
  refine call_plain (toBindingS_spec s0 hb0) fun u1 μ1 hle1 hf1 => ?_
  replace s0 := s0.mono hle1
  replace s1 := s1.mono hle1
  replace h2 := h2.mono hle1
  obtain ⟨bb2, cc2, rfl, a0⟩ := Rep.sl hf1.rep
  rw [List.length_map] at a0 ⊢
  refine call_plain (toVarKindS_spec s1 hb1) fun u3 μ3 hle3 hf3 => ?_
  replace s0 := s0.mono hle3
  replace s1 := s1.mono hle3
  replace h2 := h2.mono hle3
  replace a0 := a0.mono hle3
  obtain ⟨bb4, cc4, rfl, a1⟩ := Rep.sl hf3.rep
  rw [List.length_map] at a1 ⊢
  have a1r := hf3.rep
  rw [List.length_map] at a1r
  refine call_plain (toTerm_spec t2 h2 hb2) fun u5 μ5 hle5 hf5 => ?_
  replace s0 := s0.mono hle5
  replace s1 := s1.mono hle5
  replace h2 := h2.mono hle5
  replace a0 := a0.mono hle5
  replace a1 := a1.mono hle5
  replace a1r := a1r.mono hle5
  obtain ⟨qq6, rfl⟩ := Tm.invV hf5.rep
  have a2 := hf5.rep
  refine call_plain (spec_AddKind_spec (k := k) a0 w0 a1r a2 w2) fun u7 μ7 hle7 hR => ?_
  replace s0 := s0.mono hle7
  replace s1 := s1.mono hle7
  replace h2 := h2.mono hle7
  replace a0 := a0.mono hle7
  replace a1 := a1.mono hle7
  replace a1r := a1r.mono hle7
  replace a2 := a2.mono hle7
  obtain ⟨w0, rfl, hw0⟩ := optVK_rep hR
  obtain ⟨bb8, cc8, rfl, hw⟩ := Rep.sl hw0
  rw [List.length_map] at hw ⊢
  refine call_new id (apart_nil _) Owns.none ((toBindingS_spec (s0.mono (Mem.le_join _ _)) hb0).weaken fun v μ' _ h => ⟨v, rfl, h⟩) fun x0 μ9 H9 hle9 hap9 ho9 => ?_
  replace s0 := s0.mono hle9
  replace s1 := s1.mono hle9
  replace h2 := h2.mono hle9
  replace hw := hw.mono hle9
  obtain ⟨bb10, cc10, rfl, xx0⟩ := Rep.sl (Owns.rep (l1 := []) hap9 ho9)
  rw [List.length_map] at xx0 ho9 ⊢
  refine call_new id hap9 ho9 ((toVarKindS_spec (s1.mono (Mem.le_join _ _)) hb1).weaken fun v μ' _ h => ⟨v, rfl, h⟩) fun x1 μ11 H11 hle11 hap11 ho11 => ?_
  replace s0 := s0.mono hle11
  replace s1 := s1.mono hle11
  replace h2 := h2.mono hle11
  replace hw := hw.mono hle11
  obtain ⟨bb12, cc12, rfl, xx1⟩ := Rep.sl (Owns.rep (l1 := [_]) hap11 ho11)
  rw [List.length_map] at xx1 ho11 ⊢
  refine call_new id hap11 ho11 ((toTerm_spec t2 (h2.mono (Mem.le_join _ _)) hb2).weaken fun v μ' _ h => ⟨v, rfl, h⟩) fun x2 μ13 H13 hle13 hap13 ho13 => ?_
  replace s0 := s0.mono hle13
  replace s1 := s1.mono hle13
  replace h2 := h2.mono hle13
  replace hw := hw.mono hle13
  obtain ⟨qq14, rfl⟩ := Tm.invV (Owns.rep (l1 := [_, _]) hap13 ho13)
  have xx2 := (Owns.rep (l1 := [_, _]) hap13 ho13)
  intro rx2
  obtain ⟨bn17, cn17, en17, ya16⟩ := Rep.sl (Owns.rep (l1 := []) hap13 ho13)
  rw [List.length_map] at ya16 en17
  obtain ⟨rfl, _, rfl⟩ := Value.slice.inj en17
  have yr18 := Owns.rep (l1 := [_]) hap13 ho13
  refine call_new (fun gv => .tuple #[gv, .bool (addK t0 t1 t2 k).isSome]) hap13 ho13 ((impl_AddKind_spec (k := k) ya16 yr18 (Owns.rep (l1 := [_, _]) hap13 ho13)).weaken fun v μ' _ h => optVK_fresh h) fun g0 μ15 H15 hle15 hap15 ho15 => ?_
  replace s0 := s0.mono hle15
  replace s1 := s1.mono hle15
  replace h2 := h2.mono hle15
  replace hw := hw.mono hle15
  obtain ⟨bb19, cc19, rfl, gg⟩ := Rep.sl (Owns.rep (l1 := [_, _, _]) hap15 ho15)
  rw [List.length_map] at gg ho15 ⊢
  obtain ⟨bn21, cn21, en21, yg20⟩ := Rep.sl (Owns.rep (l1 := [_, _, _]) hap15 ho15)
  rw [List.length_map] at yg20 en21
  obtain ⟨rfl, _, rfl⟩ := Value.slice.inj en21
  refine call_read hap15 (eqVarKindS_spec yg20 (hw.mono (Mem.le_join _ _))) ?_
  refine if_intro (fun h => nomatch h) (fun _ => ?_)
  refine if_intro (fun h => absurd h (by simp)) (fun _ => ?_)
  refine call_data hap15 (toBindingS_spec s0 hb0) fun u22 μ22 hle22 hap22 hf22 => ?_
  replace s0 := s0.mono hle22
  replace s1 := s1.mono hle22
  replace h2 := h2.mono hle22
  replace hw := hw.mono hle22
  obtain ⟨bb23, cc23, rfl, z0⟩ := Rep.sl hf22.rep
  rw [List.length_map] at z0 ⊢
  obtain ⟨bn25, cn25, en25, yb24⟩ := Rep.sl (Owns.rep (l1 := []) hap22 ho15)
  rw [List.length_map] at yb24 en25
  obtain ⟨rfl, _, rfl⟩ := Value.slice.inj en25
  refine call_read hap22 (eqBindingS_spec yb24 (z0.mono (Mem.le_join _ _))) ?_
  refine if_intro (fun h => nomatch h) (fun _ => ?_)
  refine call_data hap22 (toVarKindS_spec s1 hb1) fun u26 μ26 hle26 hap26 hf26 => ?_
  replace s0 := s0.mono hle26
  replace s1 := s1.mono hle26
  replace h2 := h2.mono hle26
  replace hw := hw.mono hle26
  obtain ⟨bb27, cc27, rfl, z1⟩ := Rep.sl hf26.rep
  rw [List.length_map] at z1 ⊢
  obtain ⟨bn29, cn29, en29, yb28⟩ := Rep.sl (Owns.rep (l1 := [_]) hap26 ho15)
  rw [List.length_map] at yb28 en29
  obtain ⟨rfl, _, rfl⟩ := Value.slice.inj en29
  refine call_read hap26 (eqVarKindS_spec yb28 (z1.mono (Mem.le_join _ _))) ?_
  refine if_intro (fun h => nomatch h) (fun _ => ?_)
  refine call_data hap26 (toTerm_spec t2 h2 hb2) fun u30 μ30 hle30 hap30 hf30 => ?_
  replace s0 := s0.mono hle30
  replace s1 := s1.mono hle30
  replace h2 := h2.mono hle30
  replace hw := hw.mono hle30
  refine call_read hap30 (eqTerm_spec t2 (Owns.rep (l1 := [_, _]) hap30 ho15) (hf30.rep.mono (Mem.le_join _ _))) ?_
  refine if_intro (fun h => nomatch h) (fun _ => ?_)
  have ca0 := bds_cnt t0
  have ma0 := D.mks_cnt (t0.map Bd.d) (1)
  have ca1 := vks_cnt t1
  have ma1 := D.mks_cnt (t1.map VK.d) ((D.mks (t0.map Bd.d) (1)).2)
  have ca2 := tm_cnt_sz t2
  rw [Tm.cnt_eq] at ca2
  have ma2 := tm_mt t2 ((D.mks (t1.map VK.d) ((D.mks (t0.map Bd.d) (1)).2)).2)
  have rz := resK_cnt fun y h => addK_ok (s := t0) (l := t1) (t := t2) (k := k) h
  have mg := D.mks_cnt ((resVK (addK t0 t1 t2 k)).map VK.d) 1
  refine call_mark (l1 := []) hap30 ho15 (fun hx o => markBindingS_spec o (by omega) (by omega)) fun H31 hap31 ho31 => ?_
  refine call_mark (l1 := [_]) hap31 ho31 (fun hx o => markVarKindS_spec o (by omega) (by omega)) fun H32 hap32 ho32 => ?_
  refine call_mark (l1 := [_, _]) hap32 ho32 (fun hx o => markTerm_spec t2 o (by omega) (by omega)) fun H33 hap33 ho33 => ?_
  refine ifd (fun h => by omega) (fun _ => ?_)
  obtain ⟨bn35, cn35, en35, yg34⟩ := Rep.sl (Owns.rep (l1 := [_, _, _]) hap33 ho33)
  rw [List.length_map] at yg34 en35
  obtain ⟨rfl, _, rfl⟩ := Value.slice.inj en35
  refine call_read hap33 (eqVarKindS_spec yg34 (hw.mono (Mem.le_join _ _))) ?_
  refine if_intro (fun h => nomatch h) (fun _ => ?_)
  refine if_intro (fun h => absurd h (by simp)) (fun _ => ?_)
  refine call_mark (l1 := [_, _, _]) hap33 ho33 (fun hx o => markVarKindS_spec o (by omega) (by omega)) fun H36 hap36 ho36 => ?_
  refine call_read hap36 (heldVarKindS_spec (Owns.rep (l1 := [_, _, _]) hap36 ho36) (by omega) (by omega)) ?_
  refine ifd (fun h => by omega) (fun _ => ?_)
  refine ifnd (fun h => absurd rfl h) (fun _ => ?_)
  refine call_data hap36 (toBindingS_spec s0 hb0) fun u37 μ37 hle37 hap37 hf37 => ?_
  replace s0 := s0.mono hle37
  replace s1 := s1.mono hle37
  replace h2 := h2.mono hle37
  replace hw := hw.mono hle37
  obtain ⟨bb38, cc38, rfl, o0⟩ := Rep.sl hf37.rep
  rw [List.length_map] at o0 ⊢
  refine call_data hap37 (toVarKindS_spec s1 hb1) fun u39 μ39 hle39 hap39 hf39 => ?_
  replace s0 := s0.mono hle39
  replace s1 := s1.mono hle39
  replace h2 := h2.mono hle39
  replace hw := hw.mono hle39
  replace o0 := o0.mono hle39
  obtain ⟨bb40, cc40, rfl, o1⟩ := Rep.sl hf39.rep
  rw [List.length_map] at o1 ⊢
  have o1r := hf39.rep
  rw [List.length_map] at o1r
  refine call_data hap39 (toTerm_spec t2 h2 hb2) fun u41 μ41 hle41 hap41 hf41 => ?_
  replace s0 := s0.mono hle41
  replace s1 := s1.mono hle41
  replace h2 := h2.mono hle41
  replace hw := hw.mono hle41
  replace o0 := o0.mono hle41
  replace o1 := o1.mono hle41
  replace o1r := o1r.mono hle41
  obtain ⟨qq42, rfl⟩ := Tm.invV hf41.rep
  have o2 := hf41.rep
  refine call_data hap41 ((impl_AddKind_spec (k := k) o0 o1r o2).weaken fun v μ' _ h => optVK_fresh h) fun u43 μ43 hle43 hap43 hR => ?_
  replace s0 := s0.mono hle43
  replace s1 := s1.mono hle43
  replace h2 := h2.mono hle43
  replace hw := hw.mono hle43
  replace o0 := o0.mono hle43
  replace o1 := o1.mono hle43
  replace o1r := o1r.mono hle43
  replace o2 := o2.mono hle43
  obtain ⟨h0, rfl, hh0⟩ := hR
  obtain ⟨bb44, cc44, rfl, hh⟩ := Rep.sl hh0.rep
  rw [List.length_map] at hh ⊢
  refine call_read hap43 (eqVarKindS_spec (hh.mono (Mem.le_join _ _)) (hw.mono (Mem.le_join _ _))) ?_
  refine if_intro (fun h => nomatch h) (fun _ => ?_)
  refine if_intro (fun h => absurd h (by simp)) (fun _ => ?_)
  refine call_read hap43 (heldVarKindS_spec (Owns.rep (l1 := [_, _, _]) hap43 ho36) (by omega) (by omega)) ?_
  refine ifd (fun h => by omega) (fun _ => ?_)
  refine ifnd (fun h => absurd rfl h) (fun _ => ?_)
  exact ret_plain rfl
end
end Go.Vx
