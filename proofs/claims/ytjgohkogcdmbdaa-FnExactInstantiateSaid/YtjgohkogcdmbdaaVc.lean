/- Contracts: the law's own functions on arcs and graphs. -/
import Derived.Test.YtjgohkogcdmbdaaVb
namespace Go.Vx
open Go.Proofs Classical
section
variable {μ : Mem}
theorem szArcS_spec {base : Option Addr} {n cap : Nat} {left : Int} (hl : 0 ≤ left) (hl2 : left ≤ 1048576) (hn : n ≤ maxLen) : Gives Try.prog 38 [.slice base n cap, .int .i64 left] μ (.int .i64 (szR left n)) := by
  have hn : n ≤ 9223372036854775807 := Nat.le_trans hn (by decide)
  refine Spec.mk Try.func38 (by kernel_rfl) ?_
  refine num64 (by omega) (by omega) ?_
  refine ifd (fun h => ret_gives ?_ rfl) (fun h => ret_gives ?_ rfl)
  · rw [szR_neg (by omega)]
  · rw [szR_pos (by omega)]
def Graph.sz (g : Graph) : Nat := g.caller.size + g.callee.size + g.arcs.length
theorem szSizeGraph_spec {g : Graph} {v : Value} (hv : RepV μ g.d v) {left : Int} (hl : 0 ≤ left) (hl2 : left ≤ 1048576) (h1 : g.caller.size ≤ maxLen) (h2 : g.callee.size ≤ maxLen) :
    Gives Try.prog 9 [v, .int .i64 left] μ (.int .i64 (szR left g.sz)) := by
  have h1 : g.caller.size ≤ 9223372036854775807 := Nat.le_trans h1 (by decide)
  have h2 : g.callee.size ≤ 9223372036854775807 := Nat.le_trans h2 (by decide)
  obtain ⟨base, cap, rfl, hsl⟩ := Graph.inv hv
  refine Spec.mk Try.func9 (by kernel_rfl) ?_
  intro r
  refine num64 (by omega) (by omega) (ifd (fun h => ret_gives ?_ rfl) (fun h => ?_))
  · rw [szR_neg (by unfold Graph.sz; omega)]
  refine num64 (by omega) (by omega) (ifd (fun h => ret_gives ?_ rfl) (fun h => ?_))
  · rw [szR_neg (by unfold Graph.sz; omega)]
  refine call_gives (szArcS_spec (by omega) (by omega) hsl.max) ?_
  refine ifd (fun h => ret_gives ?_ rfl) (fun h => ret_gives ?_ rfl)
  · have := szR_lt h
    rw [szR_neg (by unfold Graph.sz; omega)]
  · have := szR_ge h
    rw [szR_pos this, szR_pos (by unfold Graph.sz; omega)]
    unfold Graph.sz; congr 1; omega
theorem toArc_spec (a : Arc) : Gives Try.prog 73 [.agg #[.int .i64 a.src, .int .i64 a.dst, .bool a.strict]] μ (.agg #[.int .i64 a.src, .int .i64 a.dst, .bool a.strict]) := by
  refine Spec.mk Try.func73 (by kernel_rfl) ?_
  intro r1 r2 r3
  exact ret_gives rfl rfl
def Arc.v (a : Arc) : Value := .agg #[.int .i64 a.src, .int .i64 a.dst, .bool a.strict]
theorem Arc.own (a : Arc) : OwnV a.d Mem.nil a.v := ⟨[.int .i64 a.src, .int .i64 a.dst, .bool a.strict], rfl, (OwnS.int (OwnS.int (OwnS.bool OwnS.nil)))⟩
theorem Arc.rows : ∀ (l : List Arc), OwnRows 3 (l.map Arc.d) (l.map Arc.v) Mem.nil
  | [] => OwnRows.nil 3
  | a :: l => ⟨by
      have := OwnS.append (Parts.nil_left Mem.nil) (OwnS.last (Arc.own a).cells) (Arc.rows l).own
      simpa using this, by
      intro x hx
      simp only [List.map_cons, List.mem_cons] at hx
      rcases hx with rfl | hx
      · rfl
      · exact (Arc.rows l).size x hx, by simp⟩
theorem toArcS_spec {base : Option Addr} {cap : Nat} {l : List Arc} (hsl : Sl μ 3 base l.length (l.map Arc.d)) (hb : l.length ≤ 1048576) :
    Spec Try.prog 41 [.slice base l.length cap] μ fun v μ' => Fresh μ μ' (.sl 3 (l.map Arc.d)) v := by
  refine Spec.mk Try.func41 (by kernel_rfl) ?_
  refine make_intro l.length rfl rfl (by simp only; omega) (Nat.le_trans hb (by decide)) ?_
  intro r
  refine loop_intro (fun p : Nat × List Value => p.1 ≤ l.length ∧ p.2.length = l.length ∧ (∀ j a, j < p.1 → l[j]? = some a → p.2[j]? = some a.v) ∧ ∀ j, p.1 ≤ j → j < l.length → p.2[j]? = some (.agg #[.int .i64 0, .int .i64 0, .bool false]))
    (fun p => ⟨[(0, .val (.slice base l.length cap)), (3, .row 0 (some r) l.length l.length), (4, .val (.int .i64 p.1))], [(0, some (.row (some r) l.length 66 3 p.2))], 1, μ, Mem.nil⟩) (fun p => l.length - p.1)
    (0, List.replicate l.length (.agg #[.int .i64 0, .int .i64 0, .bool false])) ⟨by omega, by simp, fun j a hj => by omega, fun j _ hj => by simp [hj]⟩ (fun i => ⟨rfl, rfl⟩) ⟨⟨rfl, rfl, rfl, trivial⟩, ⟨rfl, trivial⟩, rfl, rfl⟩ ?_
  rintro ⟨i, xs⟩ ⟨hi, hlen, hdone, hrest⟩
  simp only at hi hlen hdone hrest
  refine ifd (fun h => ?_) (fun h => ?_)
  · obtain ⟨a, ha⟩ := at_some (l := l) (i := i) (by omega)
    obtain ⟨ad, had⟩ := Arc.elem hsl ha
    refine elem_intro had ?_
    refine call_gives (toArc_spec a) ?_
    refine rel_intro i rfl (by omega) ?_
    refine get_intro _ (hrest i (by omega) (by omega)) ?_
    refine num64 (by omega) (by omega) ⟨(i + 1, xs.set i a.v), ⟨by simp only; omega, by simpa using hlen, fun j b hj hb => ?_, fun j hj hj' => ?_⟩, by simp only; omega, ⟨⟨rfl, rfl, rfl, trivial⟩, ⟨rfl, trivial⟩, rfl, rfl⟩⟩
    · simp only at hj ⊢
      by_cases e : j = i
      · subst e; rw [ha] at hb; cases hb; rw [List.getElem?_set_self (by omega)]
      · rw [List.getElem?_set_ne (fun h => e h.symm)]; exact hdone j b (by omega) hb
    · simp only at hj ⊢
      rw [List.getElem?_set_ne (by omega)]; exact hrest j (by omega) hj'
  · have hxs : xs = l.map Arc.v := by
      apply List.ext_getElem?
      intro j
      by_cases hj : j < l.length
      · obtain ⟨a, ha⟩ := at_some hj
        rw [hdone j a (by omega) ha]; simp [ha]
      · rw [List.getElem?_eq_none (by omega), List.getElem?_eq_none (by simp; omega)]
    subst hxs
    refine ret_frz [0] fun μ' hle hno hrow => .inl ?_
    have := Fresh.ofRow (Arc.rows l) (fun _ _ h => nomatch h) (fun _ h => absurd rfl h) (Mem.Le.refl μ) hle hno hrow (by simp only [List.length_map]; exact Nat.le_trans hb (by decide))
    simpa using this
theorem toSizeGraph_spec {g : Graph} {v : Value} (hv : RepV μ g.d v) (hb : g.sz ≤ 1048576) : Spec Try.prog 11 [v] μ fun v μ' => Fresh μ μ' g.d v := by
  obtain ⟨base, cap, rfl, hsl⟩ := Graph.inv hv
  refine Spec.mk Try.func11 (by kernel_rfl) ?_
  intro r1 r2 r3
  refine call_plain (toArcS_spec hsl (by unfold Graph.sz at hb; omega)) fun v μ' hle hf => ?_
  obtain ⟨h, h1, h2, h3⟩ := hf
  obtain ⟨base', cap', rfl⟩ := OwnV.slice h1
  exact ret_plain ⟨h, ⟨_, rfl, OwnS.str (OwnS.str (OwnS.last h1))⟩, h2, h3⟩
theorem eqArc_spec (a b : Arc) : Gives Try.prog 75 [a.v, b.v] μ (.bool (decide (a = b))) := by
  refine Spec.mk Try.func75 (by kernel_rfl) ?_
  obtain ⟨a1, a2, a3⟩ := a
  obtain ⟨b1, b2, b3⟩ := b
  intro r1 r2
  repeat' (first
    | refine ifd (fun h => ?_) (fun h => ?_)
    | refine ifnd (fun h => ?_) (fun h => ?_)
    | refine if_intro (fun h => ?_) (fun h => ?_)
    | refine ret_gives ?_ rfl)
  all_goals simp_all
theorem eqArcS_spec {base base' : Option Addr} {cap cap' : Nat} {l l' : List Arc} (hl : Sl μ 3 base l.length (l.map Arc.d)) (hl' : Sl μ 3 base' l'.length (l'.map Arc.d)) :
    Gives Try.prog 43 [.slice base l.length cap, .slice base' l'.length cap'] μ (.bool (decide (l = l'))) := by
  have hn : l.length ≤ 9223372036854775807 := Nat.le_trans hl.max (by decide)
  refine Spec.mk Try.func43 (by kernel_rfl) ?_
  refine ifnd (fun h => ret_gives ?_ rfl) (fun h => ?_)
  · have : l ≠ l' := fun e => h (by rw [e])
    simp [this]
  have hll : l.length = l'.length := by omega
  refine loop_intro (fun i : Nat => i ≤ l.length ∧ ∀ j, j < i → l[j]? = l'[j]?) (fun i => ⟨[(0, .val (.slice base l.length cap)), (1, .val (.slice base' l'.length cap')), (5, .val (.int .i64 i))], [], 0, μ, Mem.nil⟩) (fun i => l.length - i)
    0 ⟨by omega, fun j hj => by omega⟩ (fun i => ⟨rfl, rfl⟩) ⟨⟨rfl, rfl, rfl, trivial⟩, trivial, rfl, rfl⟩ ?_
  rintro i ⟨hi, hall⟩
  refine ifd (fun h => ?_) (fun h => ?_)
  · obtain ⟨a, ha⟩ := at_some (l := l) (i := i) (by omega)
    obtain ⟨b, hb⟩ := at_some (l := l') (i := i) (by omega)
    obtain ⟨ad, had⟩ := Arc.elem hl ha
    obtain ⟨bd, hbd⟩ := Arc.elem hl' hb
    refine elem_intro had (elem_intro hbd (call_gives (eqArc_spec a b) ?_))
    refine ifnd (fun hab => ret_gives ?_ rfl) (fun hab => ?_)
    · have : l ≠ l' := fun e => hab (by subst e; rw [ha] at hb; exact Option.some.inj hb)
      simp [this]
    · refine num64 (by omega) (by omega) ⟨i + 1, ⟨by omega, fun j hj => ?_⟩, by omega, ⟨⟨rfl, rfl, rfl, trivial⟩, trivial, rfl, rfl⟩⟩
      by_cases e : j = i
      · subst e; rw [ha, hb, hab]
      · exact hall j (by omega)
  · refine ret_gives ?_ rfl
    have : l = l' := by
      apply List.ext_getElem?
      intro j
      by_cases hj : j < l.length
      · exact hall j (by omega)
      · rw [List.getElem?_eq_none (by omega), List.getElem?_eq_none (by omega)]
    simp [this]
theorem eqSizeGraph_spec {g g' : Graph} {v v' : Value} (hv : RepV μ g.d v) (hv' : RepV μ g'.d v') : Gives Try.prog 13 [v, v'] μ (.bool (decide (g = g'))) := by
  obtain ⟨base, cap, rfl, hsl⟩ := Graph.inv hv
  obtain ⟨base', cap', rfl, hsl'⟩ := Graph.inv hv'
  refine Spec.mk Try.func13 (by kernel_rfl) ?_
  obtain ⟨a1, a2, a3⟩ := g
  obtain ⟨b1, b2, b3⟩ := g'
  intro r1 r2
  repeat' (first
    | refine ifd (fun h => ?_) (fun h => ?_)
    | refine ifnd (fun h => ?_) (fun h => ?_)
    | refine if_intro (fun h => ?_) (fun h => ?_)
    | refine call_gives (eqArcS_spec hsl hsl') ?_
    | refine ret_gives ?_ rfl)
  all_goals simp_all
theorem FnExactGraphOk_spec {g : Graph} {v : Value} (hv : RepV μ g.d v) (h1 : g.caller.size ≤ maxLen) (h2 : g.callee.size ≤ maxLen) : Spec Try.prog 3 [v] μ fun r _ => r = .bool true := by
  obtain ⟨base, cap, rfl, hsl⟩ := Graph.inv hv
  refine Spec.mk Try.func3 (by kernel_rfl) ?_
  intro r1
  refine call_gives (szSizeGraph_spec hv (by omega) (by omega) h1 h2) ?_
  refine ifd (fun h => ret_plain rfl) (fun h => ?_)
  have hb : g.sz ≤ 1048576 := by
    have := szR_ge h; omega
  refine call_plain (toSizeGraph_spec hv hb) fun v1 μ1 hle1 hf1 => ?_
  obtain ⟨b1, c1, rfl, hs1⟩ := Graph.inv hf1.rep
  refine call_gives (spec_GraphOk_spec hf1.rep h1 h2) ?_
  refine call_plain (toSizeGraph_spec (hv.mono hle1) hb) fun v2 μ2 hle2 hf2 => ?_
  obtain ⟨b2, c2, rfl, hs2⟩ := Graph.inv hf2.rep
  intro r2
  refine call_gives (impl_GraphOk_spec hf2.rep) ?_
  refine ifnd (fun h => absurd rfl h) (fun _ => ?_)
  refine call_plain (toSizeGraph_spec ((hv.mono hle1).mono hle2) hb) fun v3 μ3 hle3 hf3 => ?_
  obtain ⟨b3, c3, rfl, hs3⟩ := Graph.inv hf3.rep
  refine call_gives (eqSizeGraph_spec (hf2.rep.mono hle3) hf3.rep) ?_
  refine ifnd (fun h => absurd rfl h) (fun _ => ?_)
  exact ret_plain rfl
end
end Go.Vx
