/- Texts of the proof, part 3. -/
import Derived.Orders
import Derived.Below
import Derived.WalkKit
import Derived.MapKept
import Derived.WideKeyMaps
import Derived.Maps.RangeRun
import Derived.Laws.Cover3
import Derived.Laws.IdiomStrings
import Derived.Laws.BytesString
import Derived.Deep.RegionHeld3
import Derived.Carry
import Derived.ChangeArms
import Derived.RowKit3
import Derived.Test.YtcpooehlndhcbaaGreatChecked
import Derived.KernelRfl
import Derived.ProofKit
import Derived.OpenShut
import Derived.ChangeOld
import Derived.Handed
import Derived.JoinedOf
import Derived.Sort.AssemblyPlain
import Derived.Lib.ReflectliteSwap
import Derived.Test.YtcpooehlndhcbaaGreatM2
/- Contracts: marks on terms and bindings, and what holds them. -/
namespace Go.Vx
open Go.Proofs Classical
/-- A row of owned data in the midst of being marked: i elements are done; hh is what the elements own. -/
structure Marking (xs : List D) (k : Int) (rest : List Value) (r : Nat) (j : Nat) (pre tail : List Value) (hh : Mem) : Prop where
  le : j ≤ xs.length
  out : hh r = none
  parts : ∃ post hpre hpost, tail = post ++ rest ∧ Parts hh hpre hpost ∧ OwnS (D.mks (xs.take j) k).1 hpre pre ∧ OwnS (xs.drop j) hpost post
theorem Marking.start {xs : List D} {k : Int} {rest flat : List Value} {r : Nat} {h2 : Mem} (h : h2 r = none) (o : OwnS xs h2 flat) : Marking xs k rest r 0 [] (flat ++ rest) h2 :=
  ⟨by omega, h, flat, Mem.nil, h2, rfl, Parts.nil_left _, ⟨rfl, rfl⟩, by simpa using o⟩
theorem Marking.len {xs : List D} {k : Int} {rest : List Value} {r : Nat} {j es : Nat} {pre tail : List Value} {hh : Mem} (m : Marking xs k rest r j pre tail hh) (hn : ∀ x ∈ xs, x.n = es) : pre.length = j * es := by
  obtain ⟨post, hpre, hpost, rfl, hp, o1, o2⟩ := m.parts
  rw [o1.len, D.mks_n, D.ns_eq (es := es) fun x hx => hn x (List.mem_of_mem_take hx), List.length_take, Nat.min_eq_left m.le]
/-- The next element: what it owns (g), and the rest (m). -/
theorem Marking.next {xs : List D} {k : Int} {rest : List Value} {r : Nat} {j : Nat} {pre tail : List Value} {hh : Mem} (M : Marking xs k rest r j pre tail hh) {x : D} (hx : xs[j]? = some x) :
    ∃ c g m c2, tail = c ++ (c2 ++ rest) ∧ Own x g c ∧ Parts hh g m ∧ m r = none ∧
      (∀ g' c', Apart g' m → g' r = none → Own (x.mk (D.mks (xs.take j) k).2).1 g' c' → Marking xs k rest r (j + 1) (pre ++ c') (c2 ++ rest) (g'.join m)) := by
  obtain ⟨post, hpre, hpost, rfl, hp, o1, o2⟩ := M.parts
  have hlt : j < xs.length := (List.getElem?_eq_some_iff.1 hx).1
  have hdrop : xs.drop j = x :: xs.drop (j + 1) := by
    rw [List.drop_eq_getElem_cons hlt]
    congr 1
    exact (List.getElem?_eq_some_iff.1 hx).2
  rw [hdrop] at o2
  obtain ⟨c, c2, g, g2, rfl, q, u1, u2⟩ := o2
  have hv_ := hp.assoc q.symm
  obtain ⟨m, p1, p2⟩ := hv_
  have hm : m r = none := by
    cases h : m r with
    | none => rfl
    | some o => have := p2.left r o h; rw [M.out] at this; cases this
  refine ⟨c, g, m, c2, by simp, u1, p2.symm, hm, fun g' c' ha hg ho => ⟨hlt, by rw [Mem.join_get, hg]; exact hm, c2, g'.join hpre, g2, rfl, ?_, ?_, u2⟩⟩
  · have a1 : Apart g' hpre := fun b hb => by
      cases h : hpre b with
      | none => rfl
      | some o => have := ha b hb; rw [p1.left b o h] at this; cases this
    have hv_ := (Parts.join ha).assoc p1
    obtain ⟨m2, q1, q2⟩ := hv_
    have e := q1.is_join
    subst e
    exact q2
  · rw [D.mks_take hx]
    refine OwnS.append (Parts.symm ?_) o1 (OwnS.last ho)
    refine Parts.join fun b hb => ?_
    cases h : hpre b with
    | none => rfl
    | some o => have := ha b hb; rw [p1.left b o h] at this; cases this
theorem Marking.cnt {xs : List D} {k : Int} {j : Nat} {x : D} (hx : xs[j]? = some x) : (D.mks (xs.take j) k).2 + x.cnt ≤ k + D.cnts xs := by
  have h1 := D.cnts_take xs (j + 1)
  rw [D.mks_cnt]
  rw [List.take_add_one, hx, Option.toList_some, D.cnts_append] at h1
  simp only [D.cnts] at h1
  omega
theorem Marking.last {xs : List D} {k : Int} {rest : List Value} {r : Nat} {pre tail : List Value} {hh : Mem} (M : Marking xs k rest r xs.length pre tail hh) : tail = rest ∧ OwnS (D.mks xs k).1 hh pre := by
  obtain ⟨post, hpre, hpost, rfl, hp, o1, o2⟩ := M.parts
  rw [List.drop_length] at o2
  obtain ⟨rfl, rfl⟩ := o2
  have hv_ := hp.eq (Parts.nil_right _)
  obtain rfl := hv_
  rw [List.take_length] at o1
  exact ⟨by simp, o1⟩
theorem Tm.own {t : Tm} {h : Mem} {cs : List Value} (k : Own t.d h cs) : ∃ v, cs = [.int .i64 t.kind, .int .i64 t.num, .string t.name, v] ∧ OwnV (.sl 4 (t.args.map Tm.d)) h v := by
  cases t with
  | mk kd n s l =>
    rw [Tm.d_mk] at k
    obtain ⟨c1, c2, h1, h2, rfl, p, ⟨rfl, rfl⟩, c3, c4, h3, h4, rfl, q, ⟨rfl, rfl⟩, c5, c6, h5, h6, rfl, t, ⟨rfl, rfl⟩, c7, c8, h7, h8, rfl, u, k7, rfl, rfl⟩ := k
    have hv_ := p.eq (Parts.nil_left _)
    obtain rfl := hv_
    have hv_ := q.eq (Parts.nil_left _)
    obtain rfl := hv_
    have hv_ := t.eq (Parts.nil_left _)
    obtain rfl := hv_
    have hv_ := u.eq (Parts.nil_right _)
    obtain rfl := hv_
    have hl := k7.len
    match c7, hl with
    | [v], _ => exact ⟨v, by simp [Tm.kind, Tm.num, Tm.name], k7⟩
theorem Tm.d_eq (t : Tm) : t.d = .st [.i t.kind, .i t.num, .s t.name, .sl 4 (t.args.map Tm.d)] := by
  cases t; exact Tm.d_mk _ _ _ _
section
variable {μ : Mem}
/-! ### Bindings -/
theorem Bd.own {b : Bd} {h : Mem} {cs : List Value} (k : Own b.d h cs) : ∃ v, cs = [.int .i64 b.var, .int .i64 b.to.kind, .int .i64 b.to.num, .string b.to.name, v] ∧ OwnV (.sl 4 (b.to.args.map Tm.d)) h v := by
  obtain ⟨c1, c2, h1, h2, rfl, p, ⟨rfl, rfl⟩, c3, c4, h3, h4, rfl, q, k3, rfl, rfl⟩ := k
  have hv_ := p.eq (Parts.nil_left _)
  obtain rfl := hv_
  have hv_ := q.eq (Parts.nil_right _)
  obtain rfl := hv_
  have hv_ := Tm.own k3
  obtain ⟨v, rfl, hv⟩ := hv_
  exact ⟨v, by simp, hv⟩
end
end Go.Vx

/- What the texts on types of data share. -/
namespace Go.Vx
open Go.Proofs Classical
abbrev Tm.P := Option Addr × Nat
abbrev Bd.P := Option Addr × Nat
section
variable {μ : Mem}
theorem Tm.invR {t : Tm} {cs : List Value} (h : Rep μ t.d cs) : ∃ p : Tm.P, cs = t.cs p ∧ RepV μ t.d (.agg (t.cs p).toArray) := by
  have hv_ := Tm.invC h
  obtain ⟨p, rfl⟩ := hv_
  exact ⟨p, rfl, Tm.rep h⟩
theorem Bd.invR {b : Bd} {cs : List Value} (h : Rep μ b.d cs) : ∃ p : Bd.P, cs = b.cs p ∧ RepV μ b.d (.agg (b.cs p).toArray) := by
  have hv_ := Bd.invS h
  obtain ⟨p, rfl, _⟩ := hv_
  exact ⟨p, rfl, _, rfl, h⟩
theorem Bd.d_eq (b : Bd) : b.d = .st [.i b.var, b.to.d] := rfl
theorem one_of {α : Type} {l : List α} (h : l.length = 1) : ∃ v, l = [v] := List.length_eq_one_iff.1 h
/-- Fresh memory of the parts of a struct. -/
def FreshS (μ μ' : Mem) (ds : List D) (cs : List Value) : Prop := ∃ g : Mem, OwnS ds g cs ∧ g.Le μ' ∧ ∀ b, g b ≠ none → μ b = none
variable {μ1 μ' : Mem}
theorem FreshS.nil : FreshS μ μ' [] [] := ⟨Mem.nil, ⟨rfl, rfl⟩, (fun _ _ h => nomatch h), fun _ h => absurd rfl h⟩
theorem FreshS.int {n : Int} {ds : List D} {cs : List Value} (k : FreshS μ μ' ds cs) : FreshS μ μ' (.i n :: ds) (.int .i64 n :: cs) := by
  obtain ⟨g, a, b, c⟩ := k
  exact ⟨g, OwnS.int a, b, c⟩
theorem FreshS.bool {n : Bool} {ds : List D} {cs : List Value} (k : FreshS μ μ' ds cs) : FreshS μ μ' (.b n :: ds) (.bool n :: cs) := by
  obtain ⟨g, a, b, c⟩ := k
  exact ⟨g, OwnS.bool a, b, c⟩
theorem FreshS.str {n : ByteArray} {ds : List D} {cs : List Value} (k : FreshS μ μ' ds cs) : FreshS μ μ' (.s n :: ds) (.string n :: cs) := by
  obtain ⟨g, a, b, c⟩ := k
  exact ⟨g, OwnS.str a, b, c⟩
theorem FreshS.cons {d : D} {v : Value} {ds : List D} {cs : List Value} (k1 : Fresh μ μ1 d v) (h1 : μ.Le μ1) (h2 : μ1.Le μ') (k : FreshS μ1 μ' ds cs) : FreshS μ μ' (d :: ds) (vcells v ++ cs) := by
  obtain ⟨g1, a1, b1, c1⟩ := k1
  obtain ⟨g, a, b, c⟩ := k
  refine ⟨g1.join g, OwnS.cons (Parts.join (fresh_apart b1 c)) a1.cells a, join_le (b1.trans h2) b, fun x hx => ?_⟩
  rcases join_ne hx with h | h
  · exact c1 x h
  · have h3 := c x h
    cases h0 : μ x with
    | none => rfl
    | some o => rw [h1 x o h0] at h3; cases h3
theorem FreshS.mono {μ0 : Mem} {ds : List D} {cs : List Value} (k : FreshS μ1 μ' ds cs) (h : μ0.Le μ1) : FreshS μ0 μ' ds cs := by
  obtain ⟨g, a, b, c⟩ := k
  refine ⟨g, a, b, fun x hx => ?_⟩
  have h3 := c x hx
  cases h0 : μ0 x with
  | none => rfl
  | some o => rw [h x o h0] at h3; cases h3
theorem FreshS.st {ds : List D} {cs : List Value} (k : FreshS μ μ' ds cs) : Fresh μ μ' (.st ds) (.agg cs.toArray) := by
  obtain ⟨g, a, b, c⟩ := k
  exact ⟨g, ⟨cs, rfl, a⟩, b, c⟩
end
end Go.Vx

/- Contracts: the laws' own functions on lists of lists of terms: sizes, copies, equality, marks; what an argument reads. -/
namespace Go.Vx
open Go.Proofs Classical
/-- A list of terms as an element of another list. -/
structure Ts where
  ts : List Tm
def Ts.d (x : Ts) : D := .sl 4 (x.ts.map Tm.d)
theorem Ts.d_eq (x : Ts) : x.d = .sl 4 (x.ts.map Tm.d) := rfl
theorem Ts.d_n (x : Ts) : x.d.n = 1 := rfl
abbrev Ts.P := Option Addr × Nat
/-- The cells of a value. -/
def Ts.cs (x : Ts) (p : Ts.P) : List Value := [.slice p.1 x.ts.length p.2]
section
variable {μ : Mem}
theorem Ts.invV {x : Ts} {v : Value} (h : RepV μ x.d v) : ∃ p : Ts.P, v = .slice p.1 x.ts.length p.2 := by
  have hv_ := Rep.sl (xs := x.ts.map Tm.d) h
  obtain ⟨b, c, rfl, _⟩ := hv_
  exact ⟨(b, c), by rw [List.length_map]⟩
theorem Ts.inv {x : Ts} {v : Value} (h : RepV μ x.d v) : ∃ p : Ts.P, v = .slice p.1 x.ts.length p.2 ∧ Sl μ 4 p.1 x.ts.length (x.ts.map Tm.d) := by
  have hv_ := Rep.sl (xs := x.ts.map Tm.d) h
  obtain ⟨b, c, rfl, hs⟩ := hv_
  rw [List.length_map] at hs
  exact ⟨(b, c), by rw [List.length_map], hs⟩
theorem Ts.elem {l : List Ts} {base : Option Addr} {n : Nat} (h : Sl μ 1 base n (l.map Ts.d)) {i : Nat} {x : Ts} (hx : l[i]? = some x) : ∃ ad, ∃ p : Ts.P, ElemAt μ base n 1 i ad (x.cs p) ∧ RepV μ x.d (.slice p.1 x.ts.length p.2) := by
  have hv_ := h.get i x.d (by simp [hx])
  obtain ⟨ad, cs, h1, h2⟩ := hv_
  have h3 : Rep μ (.sl 4 (x.ts.map Tm.d)) cs := h2
  have hl := Rep.len _ _ h3
  match cs, hl with
  | [v], _ =>
    have hv_ := Ts.invV (x := x) h3
    obtain ⟨p, rfl⟩ := hv_
    exact ⟨ad, p, h1, h3⟩
theorem szTermS_el (x : Ts) {v : Value} {left : Int} (h : RepV μ x.d v) (hl : 0 ≤ left) (hl2 : left ≤ 1048576) (hw : x.d.wd) : Gives Tryz.prog 62 [v, .int .i64 left] μ (.int .i64 (szR left x.d.sz)) := by
  have hv_ := Ts.inv h
  obtain ⟨p, rfl, hs⟩ := hv_
  have := szTermS_spec (cap := p.2) hs hl hl2 hw
  rw [Ts.d_eq, D.sz, List.length_map]
  exact this
theorem toTermS_el (x : Ts) {μ : Mem} {v : Value} (h : RepV μ x.d v) (hb : x.d.sz ≤ 1048576) : Spec Tryz.prog 65 [v] μ fun v μ' => Fresh μ μ' x.d v := by
  have hv_ := Ts.inv h
  obtain ⟨p, rfl, hs⟩ := hv_
  rw [Ts.d_eq, D.sz, List.length_map] at hb
  exact toTermS_spec hs hb
theorem eqTermS_el (x : Ts) {v v' : Value} (h : RepV μ x.d v) (h' : RepV μ x.d v') : Gives Tryz.prog 68 [v, v'] μ (.bool true) := by
  have hv_ := Ts.inv h
  obtain ⟨p, rfl, hs⟩ := hv_
  have hv_ := Ts.inv h'
  obtain ⟨p', rfl, hs'⟩ := hv_
  exact eqTermS_spec hs hs'
theorem szTermSS_of {l : List Ts} (he : ∀ t ∈ l, ∀ {v : Value} {left : Int}, RepV μ t.d v → 0 ≤ left → left ≤ 1048576 → t.d.wd → Gives Tryz.prog 62 [v, .int .i64 left] μ (.int .i64 (szR left t.d.sz)))
    {base : Option Addr} {cap : Nat} {left : Int} (hsl : Sl μ 1 base l.length (l.map Ts.d)) (hl : 0 ≤ left) (hl2 : left ≤ 1048576) (hw : D.wds (l.map Ts.d)) :
    Gives Tryz.prog 227 [.slice base l.length cap, .int .i64 left] μ (.int .i64 (szR left (l.length + D.szs (l.map Ts.d)))) := by
  have hn := maxLen_le hsl.max
  refine Spec.mk Tryz.func227 (by kernel_rfl) ?_
  refine num64 (by omega) (by omega) (ifd (fun h => ret_gives ?_ rfl) (fun h => ?_))
  · rw [szR_neg (by omega)]
  refine loop_intro (fun i : Nat => i ≤ l.length ∧ (D.szs ((l.map Ts.d).take i) : Int) ≤ left - l.length) (fun i => ⟨[(0, .val (.slice base l.length cap)), (1, .val (.int .i64 (left - l.length - D.szs ((l.map Ts.d).take i)))), (5, .val (.int .i64 i))], [], 0, μ, Mem.nil⟩) (fun i => l.length - i)
    0 ⟨by omega, by simp [D.szs]; omega⟩ (fun i => ⟨rfl, rfl⟩) ⟨⟨rfl, by show some (SV.val (.int .i64 _)) = some (SV.val (.int .i64 _)); congr 3; simp [D.szs], rfl, trivial⟩, trivial, rfl, rfl⟩ ?_
  rintro i ⟨hi, hz⟩
  refine ifd (fun h => ?_) (fun h => ?_)
  · have hv_ := at_some (l := l) (i := i) (by omega)
    obtain ⟨t, ht⟩ := hv_
    have hx := at_map (f := Ts.d) ht
    have hs := D.szs_take hx
    have hs' := D.szs_le (l.map Ts.d) (i + 1)
    have hv_ := Ts.elem hsl ht
    obtain ⟨ad, p, hel, hr⟩ := hv_
    refine elem_intro hel (call_gives (he t (mem_at ht) hr (by omega) (by omega) (D.wds_mem hw _ (mem_at hx))) ?_)
    refine ifd (fun h => ret_gives ?_ rfl) (fun h => ?_)
    · have := szR_lt h
      rw [szR_neg (by omega)]
    · have := szR_ge h
      refine num64 (by omega) (by omega) ⟨i + 1, ⟨by omega, by omega⟩, by omega, ⟨⟨rfl, ?_, rfl, trivial⟩, trivial, rfl, rfl⟩⟩
      rw [szR_pos this, hs]
      show some (SV.val (.int .i64 _)) = some (SV.val (.int .i64 _))
      congr 3; omega
  · obtain rfl : i = l.length := by omega
    rw [List.take_of_length_le (by simp)] at hz ⊢
    refine ret_gives ?_ rfl
    rw [szR_pos (by omega)]; congr 1; omega
theorem szTermSS_spec {l : List Ts} {base : Option Addr} {cap : Nat} {left : Int} (hsl : Sl μ 1 base l.length (l.map Ts.d)) (hl : 0 ≤ left) (hl2 : left ≤ 1048576) (hw : D.wds (l.map Ts.d)) :
    Gives Tryz.prog 227 [.slice base l.length cap, .int .i64 left] μ (.int .i64 (szR left (l.length + D.szs (l.map Ts.d)))) := szTermSS_of (fun t _ _ _ h h1 h2 h3 => szTermS_el t h h1 h2 h3) hsl hl hl2 hw
theorem toTermSS_of {l : List Ts} (he : ∀ t ∈ l, ∀ {μ : Mem} {v : Value}, RepV μ t.d v → t.d.sz ≤ 1048576 → Spec Tryz.prog 65 [v] μ fun v μ' => Fresh μ μ' t.d v)
    {base : Option Addr} {cap : Nat} (hsl : Sl μ 1 base l.length (l.map Ts.d)) (hb : l.length + D.szs (l.map Ts.d) ≤ 1048576) :
    Spec Tryz.prog 232 [.slice base l.length cap] μ fun v μ' => Fresh μ μ' (.sl 1 (l.map Ts.d)) v := by
  refine Spec.mk Tryz.func232 (by kernel_rfl) ?_
  refine make_intro l.length rfl rfl (by simp only; omega) (Nat.le_trans (m := 1048576) (by omega) (by decide)) ?_
  intro r
  refine loop_intro (fun p : Nat × List Value × Mem => μ.Le p.2.2 ∧ ∃ g, Filled 1 (Value.slice none 0 0) μ p.2.2 (l.map Ts.d) p.1 p.2.1 g)
    (fun (i, xs, μ') => ⟨[(0, .val (.slice base l.length cap)), (3, .row 0 (some r) l.length l.length), (4, .val (.int .i64 i))], [(0, some (.row (some r) l.length 42 1 xs))], 1, μ', Mem.nil⟩) (fun p => l.length - p.1)
    (0, List.replicate l.length (Value.slice none 0 0), μ) ⟨Mem.Le.refl μ, _, Filled.start (by simp)⟩ (fun (_, _, _) => ⟨rfl, rfl⟩) ⟨⟨rfl, rfl, rfl, trivial⟩, ⟨rfl, trivial⟩, rfl, rfl⟩ ?_
  rintro ⟨i, xs, μ'⟩ ⟨hle, g, hf⟩
  dsimp only at hle hf
  have hi := hf.le
  have hlen := hf.len
  rw [List.length_map] at hi hlen
  refine ifd (fun h => ?_) (fun h => ?_)
  · have hv_ := at_some (l := l) (i := i) (by omega)
    obtain ⟨t, ht⟩ := hv_
    have hx := at_map (f := Ts.d) ht
    have hs := D.szs_mem hx
    have hv_ := Ts.elem (hsl.mono hle) ht
    obtain ⟨ad, p, hel, hr⟩ := hv_
    refine elem_intro hel (call_plain (he t (mem_at ht) hr (by omega)) fun v μ'' hle2 hfr => ?_)
    have hv_ := hf.step hx (Ts.d_n t) hfr hle2
    obtain ⟨g', hf'⟩ := hv_
    have hv_ := Ts.invV hfr.rep
    obtain ⟨p2, rfl⟩ := hv_
    refine rel_intro i rfl (by omega) ?_
    refine get_intro _ (hf.rest i (by omega) (by simpa using h)) ?_
    refine num64 (by omega) (by omega) ⟨(i + 1, _, μ''), ⟨hle.trans hle2, g', hf'⟩, by dsimp only; omega, ⟨⟨rfl, rfl, rfl, trivial⟩, ⟨rfl, trivial⟩, rfl, rfl⟩⟩
  · obtain rfl : i = l.length := by omega
    refine ret_frz [0] fun μ2 hle2 hno hrow => .inl ?_
    have := Fresh.ofRow (hf.all (by simp)) hf.sub hf.new hle hle2 hno hrow (Nat.le_trans (m := 1048576) (by omega) (by decide))
    rw [hlen] at this
    exact this
theorem toTermSS_spec {l : List Ts} {base : Option Addr} {cap : Nat} (hsl : Sl μ 1 base l.length (l.map Ts.d)) (hb : l.length + D.szs (l.map Ts.d) ≤ 1048576) :
    Spec Tryz.prog 232 [.slice base l.length cap] μ fun v μ' => Fresh μ μ' (.sl 1 (l.map Ts.d)) v := toTermSS_of (fun t _ _ _ => toTermS_el t) hsl hb
theorem eqTermSS_of {l : List Ts} (he : ∀ t ∈ l, ∀ {v v' : Value}, RepV μ t.d v → RepV μ t.d v' → Gives Tryz.prog 68 [v, v'] μ (.bool true))
    {base base' : Option Addr} {cap cap' : Nat} (hl : Sl μ 1 base l.length (l.map Ts.d)) (hl' : Sl μ 1 base' l.length (l.map Ts.d)) :
    Gives Tryz.prog 238 [.slice base l.length cap, .slice base' l.length cap'] μ (.bool true) := by
  have hn := maxLen_le hl.max
  refine Spec.mk Tryz.func238 (by kernel_rfl) ?_
  refine ifnd (fun h => absurd rfl h) (fun _ => ?_)
  refine loop_intro (fun i : Nat => i ≤ l.length) (fun i => ⟨[(0, .val (.slice base l.length cap)), (1, .val (.slice base' l.length cap')), (5, .val (.int .i64 i))], [], 0, μ, Mem.nil⟩) (fun i => l.length - i)
    0 (by omega) (fun i => ⟨rfl, rfl⟩) ⟨⟨rfl, rfl, rfl, trivial⟩, trivial, rfl, rfl⟩ ?_
  intro i hi
  refine ifd (fun h => ?_) (fun h => ?_)
  · have hv_ := at_some (l := l) (i := i) (by omega)
    obtain ⟨t, ht⟩ := hv_
    have hv_ := Ts.elem hl ht
    obtain ⟨ad, p, hel, hr⟩ := hv_
    have hv_ := Ts.elem hl' ht
    obtain ⟨ad', p', hel', hr'⟩ := hv_
    refine elem_intro hel (elem_intro hel' (call_gives (he t (mem_at ht) hr hr') ?_))
    refine if_intro (fun h => nomatch h) (fun _ => ?_)
    exact num64 (by omega) (by omega) ⟨i + 1, by omega, by omega, ⟨⟨rfl, rfl, rfl, trivial⟩, trivial, rfl, rfl⟩⟩
  · exact ret_gives rfl rfl
theorem eqTermSS_spec {l : List Ts} {base base' : Option Addr} {cap cap' : Nat} (hl : Sl μ 1 base l.length (l.map Ts.d)) (hl' : Sl μ 1 base' l.length (l.map Ts.d)) :
    Gives Tryz.prog 238 [.slice base l.length cap, .slice base' l.length cap'] μ (.bool true) := eqTermSS_of (fun t _ _ _ => eqTermS_el t) hl hl'
theorem read_TermSS : Reads Tryz.prog 168 fun d => ∃ l : List Ts, d = .sl 1 (l.map Ts.d) ∧ D.wds (l.map Ts.d) := fun n =>
  (reads_sl ti168.kind (cellsOf_tt ti37) (fun d h => by obtain ⟨a, rfl, _⟩ := h; rfl) read_TermS n).weaken fun d h => by
    obtain ⟨xs, rfl, hx⟩ := h
    obtain ⟨l, rfl⟩ := lift_list (f := Ts.d) fun x h => by obtain ⟨t, h, _⟩ := hx x h; exact ⟨⟨t⟩, h⟩
    exact ⟨l, rfl, D.wds_of fun x hm => by obtain ⟨t, rfl, h⟩ := hx x hm; exact h⟩
end
end Go.Vx

/- Contracts: the laws' own functions on values of the type Table: sizes, copies, equality, marks; what an argument reads. (By gen_types.py.) -/
namespace Go.Vx
open Go.Proofs Classical
structure Tb where
  rel : ByteArray
  args : List Tm
  answers : List Ts
def Tb.d (x : Tb) : D := .st [.s x.rel, .sl 4 (x.args.map Tm.d), .sl 1 (x.answers.map Ts.d)]
theorem Tb.d_eq (x : Tb) : x.d = .st [.s x.rel, .sl 4 (x.args.map Tm.d), .sl 1 (x.answers.map Ts.d)] := rfl
theorem Tb.d_n (x : Tb) : x.d.n = 3 := by
  rw [Tb.d_eq]
  simp only [D.n, D.ns]
abbrev Tb.P := (Option Addr × Nat) × (Option Addr × Nat)
/-- The cells of a value. -/
def Tb.cs (x : Tb) (p : Tb.P) : List Value := [.string x.rel, .slice p.1.1 x.args.length p.1.2, .slice p.2.1 x.answers.length p.2.2]
section
variable {μ : Mem}
def Tb.At (μ : Mem) (x : Tb) (p : Tb.P) : Prop := Sl μ 4 p.1.1 x.args.length (x.args.map Tm.d) ∧ Sl μ 1 p.2.1 x.answers.length (x.answers.map Ts.d)
theorem Tb.invA {x : Tb} {cs : List Value} (h : Rep μ x.d cs) : ∃ p : Tb.P, cs = x.cs p ∧ Tb.At μ x p := by
  rw [Tb.d_eq] at h
  obtain ⟨a0, t0, rfl, h0, h⟩ := h
  have h0 : a0 = [.string x.rel] := h0
  subst h0
  obtain ⟨a1, t1, rfl, h1, h⟩ := h
  have hv_ := one_of (Rep.len _ _ h1)
  obtain ⟨v1, rfl⟩ := hv_
  have hv_ := Rep.sl h1
  obtain ⟨b1, c1, rfl, s1⟩ := hv_
  rw [List.length_map] at s1
  obtain ⟨a2, t2, rfl, h2, h⟩ := h
  have hv_ := one_of (Rep.len _ _ h2)
  obtain ⟨v2, rfl⟩ := hv_
  have hv_ := Rep.sl h2
  obtain ⟨b2, c2, rfl, s2⟩ := hv_
  rw [List.length_map] at s2
  obtain rfl : t2 = [] := h
  exact ⟨((b1, c1), (b2, c2)), by simp [Tb.cs], ⟨s1, s2⟩⟩
theorem Tb.rep {x : Tb} {cs : List Value} (h : Rep μ x.d cs) : RepV μ x.d (.agg cs.toArray) := by
  rw [Tb.d_eq] at h ⊢; exact ⟨cs, rfl, h⟩
theorem Tb.invR {x : Tb} {cs : List Value} (h : Rep μ x.d cs) : ∃ p : Tb.P, cs = x.cs p ∧ RepV μ x.d (.agg (x.cs p).toArray) := by
  have hv_ := Tb.invA h
  obtain ⟨p, e, _⟩ := hv_
  subst e
  exact ⟨p, rfl, Tb.rep h⟩
theorem Tb.inv {x : Tb} {v : Value} (h : RepV μ x.d v) : ∃ p : Tb.P, v = .agg #[.string x.rel, .slice p.1.1 x.args.length p.1.2, .slice p.2.1 x.answers.length p.2.2] ∧ Tb.At μ x p := by
  have h2 : ∃ cs, v = .agg (List.toArray cs) ∧ Rep μ x.d cs := by rw [Tb.d_eq] at h ⊢; exact h
  obtain ⟨cs, rfl, h3⟩ := h2
  have hv_ := Tb.invA h3
  obtain ⟨p, rfl, hA⟩ := hv_
  exact ⟨p, rfl, hA⟩
theorem Tb.invV {x : Tb} {v : Value} (h : RepV μ x.d v) : ∃ p : Tb.P, v = .agg #[.string x.rel, .slice p.1.1 x.args.length p.1.2, .slice p.2.1 x.answers.length p.2.2] := by
  have hv_ := Tb.inv h
  obtain ⟨p, h, _⟩ := hv_
  exact ⟨p, h⟩
theorem Tb.elemA {l : List Tb} {base : Option Addr} {n : Nat} (h : Sl μ 3 base n (l.map Tb.d)) {i : Nat} {x : Tb} (hx : l[i]? = some x) : ∃ ad, ∃ p : Tb.P, ElemAt μ base n 3 i ad (x.cs p) ∧ RepV μ x.d (.agg (x.cs p).toArray) ∧ Tb.At μ x p := by
  have hv_ := h.get i x.d (by simp [hx])
  obtain ⟨ad, cs, h1, h2⟩ := hv_
  have hv_ := Tb.invA h2
  obtain ⟨p, rfl, hA⟩ := hv_
  exact ⟨ad, p, h1, Tb.rep h2, hA⟩
theorem Tb.elem {l : List Tb} {base : Option Addr} {n : Nat} (h : Sl μ 3 base n (l.map Tb.d)) {i : Nat} {x : Tb} (hx : l[i]? = some x) : ∃ ad, ∃ p : Tb.P, ElemAt μ base n 3 i ad (x.cs p) ∧ RepV μ x.d (.agg (x.cs p).toArray) := by
  have hv_ := Tb.elemA h hx
  obtain ⟨ad, p, h1, h2, _⟩ := hv_
  exact ⟨ad, p, h1, h2⟩
theorem Tb.sz_eq (x : Tb) : x.d.sz = x.rel.size + (x.args.length + D.szs (x.args.map Tm.d)) + (x.answers.length + D.szs (x.answers.map Ts.d)) := by
  rw [Tb.d_eq]
  simp [D.sz, D.szs]
  omega
theorem szTable_spec (x : Tb) {v : Value} {left : Int} (hv : RepV μ x.d v) (hl : 0 ≤ left) (hl2 : left ≤ 1048576) (hw : x.d.wd) : Gives Tryz.prog 143 [v, .int .i64 left] μ (.int .i64 (szR left x.d.sz)) := by
  have hv_ := Tb.inv hv
  obtain ⟨p, rfl, hA⟩ := hv_
  have hsz := Tb.sz_eq x
  rw [Tb.d_eq] at hw
  obtain ⟨A0, A1⟩ := hA
  have m0 := maxLen_le hw.1
  refine Spec.mk Tryz.func143 (by kernel_rfl) ?_
  intro r
  refine num64 (by omega) (by omega) (ifd (fun h => ret_gives (by rw [szR_neg (by omega)]) rfl) (fun h => ?_))
  refine call_gives (szTermS_spec A0 (by omega) (by omega) hw.2.1) ?_
  refine ifd (fun h => ret_gives (by have := szR_lt h; rw [szR_neg (by omega)]) rfl) (fun h => ?_)
  have q1 := szR_ge h
  rw [szR_pos q1] at h ⊢
  refine call_gives (szTermSS_spec A1 (by omega) (by omega) hw.2.2.1) ?_
  refine ifd (fun h => ret_gives (by have := szR_lt h; rw [szR_neg (by omega)]) rfl) (fun h => ?_)
  have q2 := szR_ge h
  rw [szR_pos q2] at h ⊢
  refine ret_gives ?_ rfl
  rw [szR_pos (by omega)]
  first | rfl | (congr 1; omega)
theorem szTableS_of {l : List Tb} (he : ∀ t ∈ l, ∀ {v : Value} {left : Int}, RepV μ t.d v → 0 ≤ left → left ≤ 1048576 → t.d.wd → Gives Tryz.prog 143 [v, .int .i64 left] μ (.int .i64 (szR left t.d.sz)))
    {base : Option Addr} {cap : Nat} {left : Int} (hsl : Sl μ 3 base l.length (l.map Tb.d)) (hl : 0 ≤ left) (hl2 : left ≤ 1048576) (hw : D.wds (l.map Tb.d)) :
    Gives Tryz.prog 55 [.slice base l.length cap, .int .i64 left] μ (.int .i64 (szR left (l.length + D.szs (l.map Tb.d)))) := by
  have hn := maxLen_le hsl.max
  refine Spec.mk Tryz.func55 (by kernel_rfl) ?_
  refine num64 (by omega) (by omega) (ifd (fun h => ret_gives ?_ rfl) (fun h => ?_))
  · rw [szR_neg (by omega)]
  refine loop_intro (fun i : Nat => i ≤ l.length ∧ (D.szs ((l.map Tb.d).take i) : Int) ≤ left - l.length) (fun i => ⟨[(0, .val (.slice base l.length cap)), (1, .val (.int .i64 (left - l.length - D.szs ((l.map Tb.d).take i)))), (5, .val (.int .i64 i))], [], 0, μ, Mem.nil⟩) (fun i => l.length - i)
    0 ⟨by omega, by simp [D.szs]; omega⟩ (fun i => ⟨rfl, rfl⟩) ⟨⟨rfl, by show some (SV.val (.int .i64 _)) = some (SV.val (.int .i64 _)); congr 3; simp [D.szs], rfl, trivial⟩, trivial, rfl, rfl⟩ ?_
  rintro i ⟨hi, hz⟩
  refine ifd (fun h => ?_) (fun h => ?_)
  · obtain ⟨t, ht⟩ := at_some (l := l) (i := i) (by omega)
    have hx := at_map (f := Tb.d) ht
    have hs := D.szs_take hx
    have hs' := D.szs_le (l.map Tb.d) (i + 1)
    obtain ⟨ad, p, hel, hr⟩ := Tb.elem hsl ht
    refine elem_intro hel (call_gives (he t (mem_at ht) hr (by omega) (by omega) (D.wds_mem hw _ (mem_at hx))) ?_)
    refine ifd (fun h => ret_gives ?_ rfl) (fun h => ?_)
    · have := szR_lt h
      rw [szR_neg (by omega)]
    · have := szR_ge h
      refine num64 (by omega) (by omega) ⟨i + 1, ⟨by omega, by omega⟩, by omega, ⟨⟨rfl, ?_, rfl, trivial⟩, trivial, rfl, rfl⟩⟩
      rw [szR_pos this, hs]
      show some (SV.val (.int .i64 _)) = some (SV.val (.int .i64 _))
      congr 3; omega
  · obtain rfl : i = l.length := by omega
    rw [List.take_of_length_le (by simp)] at hz ⊢
    refine ret_gives ?_ rfl
    rw [szR_pos (by omega)]; congr 1; omega
theorem szTableS_spec {l : List Tb} {base : Option Addr} {cap : Nat} {left : Int} (hsl : Sl μ 3 base l.length (l.map Tb.d)) (hl : 0 ≤ left) (hl2 : left ≤ 1048576) (hw : D.wds (l.map Tb.d)) :
    Gives Tryz.prog 55 [.slice base l.length cap, .int .i64 left] μ (.int .i64 (szR left (l.length + D.szs (l.map Tb.d)))) := szTableS_of (fun t _ _ _ => szTable_spec t) hsl hl hl2 hw
set_option maxRecDepth 4000 in
theorem toTable_spec (x : Tb) {μ : Mem} {v : Value} (hv : RepV μ x.d v) (hb : x.d.sz ≤ 1048576) : Spec Tryz.prog 148 [v] μ fun v μ' => Fresh μ μ' x.d v := by
  have hv_ := Tb.inv hv
  obtain ⟨p, rfl, hA⟩ := hv_
  have hsz := Tb.sz_eq x
  obtain ⟨A0, A1⟩ := hA
  refine Spec.mk Tryz.func148 (by kernel_rfl) ?_
  intro r1 r2 r3
  refine call_plain (toTermS_spec A0 (by omega)) fun u0 μ0 hle0 hf0 => ?_
  replace A1 := A1.mono hle0
  have hv_ := Rep.sl hf0.rep
  obtain ⟨bb0, cc0, rfl, _⟩ := hv_
  refine call_plain (toTermSS_spec A1 (by omega)) fun u1 μ1 hle1 hf1 => ?_
  have hv_ := Rep.sl hf1.rep
  obtain ⟨bb1, cc1, rfl, _⟩ := hv_
  rw [Tb.d_eq]
  exact ret_plain (FreshS.st (FreshS.str (FreshS.cons hf0 hle0 (hle1) (FreshS.cons hf1 hle1 (Mem.Le.refl _) (FreshS.nil)))))
theorem toTableS_of {l : List Tb} (he : ∀ t ∈ l, ∀ {μ : Mem} {v : Value}, RepV μ t.d v → t.d.sz ≤ 1048576 → Spec Tryz.prog 148 [v] μ fun v μ' => Fresh μ μ' t.d v)
    {base : Option Addr} {cap : Nat} (hsl : Sl μ 3 base l.length (l.map Tb.d)) (hb : l.length + D.szs (l.map Tb.d) ≤ 1048576) :
    Spec Tryz.prog 57 [.slice base l.length cap] μ fun v μ' => Fresh μ μ' (.sl 3 (l.map Tb.d)) v := by
  refine Spec.mk Tryz.func57 (by kernel_rfl) ?_
  refine make_intro l.length rfl rfl (by simp only; omega) (Nat.le_trans (m := 1048576) (by omega) (by decide)) ?_
  intro r
  refine loop_intro (fun p : Nat × List Value × Mem => μ.Le p.2.2 ∧ ∃ g, Filled 3 (.agg #[.string ⟨#[]⟩, .slice none 0 0, .slice none 0 0]) μ p.2.2 (l.map Tb.d) p.1 p.2.1 g)
    (fun (i, xs, μ') => ⟨[(0, .val (.slice base l.length cap)), (3, .row 0 (some r) l.length l.length), (4, .val (.int .i64 i))], [(0, some (.row (some r) l.length 173 3 xs))], 1, μ', Mem.nil⟩) (fun p => l.length - p.1)
    (0, List.replicate l.length (.agg #[.string ⟨#[]⟩, .slice none 0 0, .slice none 0 0]), μ) ⟨Mem.Le.refl μ, _, Filled.start (by simp)⟩ (fun (_, _, _) => ⟨rfl, rfl⟩) ⟨⟨rfl, rfl, rfl, trivial⟩, ⟨rfl, trivial⟩, rfl, rfl⟩ ?_
  rintro ⟨i, xs, μ'⟩ ⟨hle, g, hf⟩
  dsimp only at hle hf
  have hi := hf.le
  have hlen := hf.len
  rw [List.length_map] at hi hlen
  refine ifd (fun h => ?_) (fun h => ?_)
  · obtain ⟨t, ht⟩ := at_some (l := l) (i := i) (by omega)
    have hx := at_map (f := Tb.d) ht
    have hs := D.szs_mem hx
    obtain ⟨ad, p, hel, hr⟩ := Tb.elem (hsl.mono hle) ht
    refine elem_intro hel (call_plain (he t (mem_at ht) hr (by omega)) fun v μ'' hle2 hfr => ?_)
    obtain ⟨g', hf'⟩ := hf.step hx (Tb.d_n t) hfr hle2
    obtain ⟨p2, rfl⟩ := Tb.invV hfr.rep
    refine rel_intro i rfl (by omega) ?_
    refine get_intro _ (hf.rest i (by omega) (by simpa using h)) ?_
    refine num64 (by omega) (by omega) ⟨(i + 1, _, μ''), ⟨hle.trans hle2, g', hf'⟩, by dsimp only; omega, ⟨⟨rfl, rfl, rfl, trivial⟩, ⟨rfl, trivial⟩, rfl, rfl⟩⟩
  · obtain rfl : i = l.length := by omega
    refine ret_frz [0] fun μ2 hle2 hno hrow => .inl ?_
    have := Fresh.ofRow (hf.all (by simp)) hf.sub hf.new hle hle2 hno hrow (Nat.le_trans (m := 1048576) (by omega) (by decide))
    rw [hlen] at this
    exact this
theorem toTableS_spec {l : List Tb} {base : Option Addr} {cap : Nat} (hsl : Sl μ 3 base l.length (l.map Tb.d)) (hb : l.length + D.szs (l.map Tb.d) ≤ 1048576) :
    Spec Tryz.prog 57 [.slice base l.length cap] μ fun v μ' => Fresh μ μ' (.sl 3 (l.map Tb.d)) v := toTableS_of (fun t _ _ _ => toTable_spec t) hsl hb
theorem eqTable_spec (x : Tb) {v v' : Value} (hv : RepV μ x.d v) (hv' : RepV μ x.d v') : Gives Tryz.prog 155 [v, v'] μ (.bool true) := by
  have hv_ := Tb.inv hv
  obtain ⟨p, rfl, hA⟩ := hv_
  have hv_ := Tb.inv hv'
  obtain ⟨p', rfl, hB⟩ := hv_
  obtain ⟨A0, A1⟩ := hA
  obtain ⟨B0, B1⟩ := hB
  refine Spec.mk Tryz.func155 (by kernel_rfl) ?_
  intro r1 r2
  refine ifnd (fun h => absurd rfl h) (fun _ => ?_)
  refine call_gives (eqTermS_spec A0 B0) ?_
  refine if_intro (fun h => nomatch h) (fun _ => ?_)
  refine call_gives (eqTermSS_spec A1 B1) ?_
  refine if_intro (fun h => nomatch h) (fun _ => ?_)
  exact ret_gives rfl rfl
theorem eqTableS_of {l : List Tb} (he : ∀ t ∈ l, ∀ {v v' : Value}, RepV μ t.d v → RepV μ t.d v' → Gives Tryz.prog 155 [v, v'] μ (.bool true))
    {base base' : Option Addr} {cap cap' : Nat} (hl : Sl μ 3 base l.length (l.map Tb.d)) (hl' : Sl μ 3 base' l.length (l.map Tb.d)) :
    Gives Tryz.prog 59 [.slice base l.length cap, .slice base' l.length cap'] μ (.bool true) := by
  have hn := maxLen_le hl.max
  refine Spec.mk Tryz.func59 (by kernel_rfl) ?_
  refine ifnd (fun h => absurd rfl h) (fun _ => ?_)
  refine loop_intro (fun i : Nat => i ≤ l.length) (fun i => ⟨[(0, .val (.slice base l.length cap)), (1, .val (.slice base' l.length cap')), (5, .val (.int .i64 i))], [], 0, μ, Mem.nil⟩) (fun i => l.length - i)
    0 (by omega) (fun i => ⟨rfl, rfl⟩) ⟨⟨rfl, rfl, rfl, trivial⟩, trivial, rfl, rfl⟩ ?_
  intro i hi
  refine ifd (fun h => ?_) (fun h => ?_)
  · obtain ⟨t, ht⟩ := at_some (l := l) (i := i) (by omega)
    obtain ⟨ad, p, hel, hr⟩ := Tb.elem hl ht
    obtain ⟨ad', p', hel', hr'⟩ := Tb.elem hl' ht
    refine elem_intro hel (elem_intro hel' (call_gives (he t (mem_at ht) hr hr') ?_))
    refine if_intro (fun h => nomatch h) (fun _ => ?_)
    exact num64 (by omega) (by omega) ⟨i + 1, by omega, by omega, ⟨⟨rfl, rfl, rfl, trivial⟩, trivial, rfl, rfl⟩⟩
  · exact ret_gives rfl rfl
theorem eqTableS_spec {l : List Tb} {base base' : Option Addr} {cap cap' : Nat} (hl : Sl μ 3 base l.length (l.map Tb.d)) (hl' : Sl μ 3 base' l.length (l.map Tb.d)) :
    Gives Tryz.prog 59 [.slice base l.length cap, .slice base' l.length cap'] μ (.bool true) := eqTableS_of (fun t _ _ _ => eqTable_spec t) hl hl'
theorem read_Table : Reads Tryz.prog 170 fun d => ∃ x : Tb, d = x.d ∧ x.d.wd
  | 0 => ReadsTo.zero _
  | n + 1 => (reads_struct ti170 rfl (FieldsTo.cons ti9 (reads_str und_string n) (FieldsTo.cons ti37 (read_TermS n) (FieldsTo.cons ti168 (read_TermSS n) FieldsTo.nil)))).weaken fun d h => by
    obtain ⟨ds, rfl, h⟩ := h
    obtain ⟨_, _, rfl, ⟨x0, rfl, w0⟩, q0⟩ := h.cons
    obtain ⟨_, _, rfl, ⟨x1, rfl, w1⟩, q1⟩ := q0.cons
    obtain ⟨_, _, rfl, ⟨x2, rfl, w2⟩, q2⟩ := q1.cons
    obtain rfl := q2.nil
    refine ⟨.mk x0 x1 x2, (Tb.d_eq (.mk x0 x1 x2)).symm, ?_⟩
    rw [Tb.d_eq]
    exact ⟨w0, w1, w2, trivial⟩
theorem read_TableS : Reads Tryz.prog 85 fun d => ∃ l : List Tb, d = .sl 3 (l.map Tb.d) ∧ D.wds (l.map Tb.d) := fun n =>
  (reads_sl ti85.kind (cellsOf_tt ti170) (fun d h => by obtain ⟨a, rfl, _⟩ := h; exact Tb.d_n a) read_Table n).weaken fun d h => by
    obtain ⟨xs, rfl, hx⟩ := h
    obtain ⟨l, rfl⟩ := lift_list (f := Tb.d) fun x h => by obtain ⟨t, h, _⟩ := hx x h; exact ⟨t, h⟩
    exact ⟨l, rfl, D.wds_of fun x hm => by obtain ⟨t, rfl, h⟩ := hx x hm; exact h⟩
end
end Go.Vx

/- Terms, plain: shapes, sizes, variables. -/
namespace Go.Vx
open Go.Proofs Classical
def Str.nil : ByteArray := ⟨#[]⟩
/-- Terms that are well-formed. -/
inductive T where
  | nil
  | var (n : Int)
  | sym (s : ByteArray)
  | num (n : Int)
  | pair (a b : T)
def T.tm : T → Tm
  | .nil => .mk 0 0 ⟨#[]⟩ []
  | .var n => .mk 1 n ⟨#[]⟩ []
  | .sym s => .mk 2 0 s []
  | .num n => .mk 3 n ⟨#[]⟩ []
  | .pair a b => .mk 4 0 ⟨#[]⟩ [a.tm, b.tm]
def T.good : T → Prop
  | .nil => True
  | .var n => 0 ≤ n ∧ n ≤ 100000
  | .sym s => IsNm s
  | .num n => -1000000000 ≤ n ∧ n ≤ 1000000000
  | .pair a b => a.good ∧ b.good
def T.size : T → Nat
  | .pair a b => 1 + a.size + b.size
  | .nil => 1
  | .var _ => 1
  | .sym _ => 1
  | .num _ => 1
def T.vars : T → List Int
  | .var n => [n]
  | .pair a b => a.vars ++ b.vars
  | .nil => []
  | .sym _ => []
  | .num _ => []
def T.ok (x : T) : Prop := x.good ∧ x.size ≤ 5000
mutual
def Tm.cnt : Tm → Nat
  | .mk _ _ _ l => 1 + Tm.cnts l
def Tm.cnts : List Tm → Nat
  | [] => 0
  | t :: r => t.cnt + Tm.cnts r
end
def Tm.Sh (t : Tm) : Prop := ∃ x : T, x.good ∧ x.tm = t
def Tm.Ok (t : Tm) : Prop := t.Sh ∧ t.cnt ≤ 5000
theorem T.cnt_tm : ∀ x : T, x.tm.cnt = x.size
  | .nil => rfl
  | .var _ => rfl
  | .sym _ => rfl
  | .num _ => rfl
  | .pair a b => by simp [T.tm, Tm.cnt, Tm.cnts, T.size, T.cnt_tm a, T.cnt_tm b]; omega
theorem Tm.cnt_pos (t : Tm) : 1 ≤ t.cnt := by cases t; simp [Tm.cnt]
theorem Tm.Ok.lift {t : Tm} (h : t.Ok) : ∃ x : T, x.ok ∧ t = x.tm := by
  obtain ⟨⟨x, h1, rfl⟩, h2⟩ := h
  rw [T.cnt_tm] at h2
  exact ⟨x, ⟨h1, h2⟩, rfl⟩
theorem T.ok.tm {x : T} (h : x.ok) : x.tm.Ok := ⟨⟨x, h.1, rfl⟩, by rw [T.cnt_tm]; exact h.2⟩
/-- What makes a shape well-formed. -/
theorem Tm.Sh_iff (k n : Int) (s : ByteArray) (l : List Tm) : (Tm.mk k n s l).Sh ↔
    (k = 0 ∧ n = 0 ∧ s = ⟨#[]⟩ ∧ l = []) ∨ (k = 1 ∧ 0 ≤ n ∧ n ≤ 100000 ∧ s = ⟨#[]⟩ ∧ l = []) ∨ (k = 2 ∧ n = 0 ∧ IsNm s ∧ l = []) ∨ (k = 3 ∧ -1000000000 ≤ n ∧ n ≤ 1000000000 ∧ s = ⟨#[]⟩ ∧ l = []) ∨
    (k = 4 ∧ n = 0 ∧ s = ⟨#[]⟩ ∧ ∃ a b, l = [a, b] ∧ a.Sh ∧ b.Sh) := by
  constructor
  · rintro ⟨x, hx, e⟩
    cases x <;> simp only [T.tm, Tm.mk.injEq] at e <;> obtain ⟨rfl, rfl, rfl, rfl⟩ := e <;> simp only [T.good] at hx
    · simp
    · right; left; simp [hx]
    · right; right; left; simp [hx]
    · right; right; right; left; simp [hx]
    · right; right; right; right
      exact ⟨rfl, rfl, rfl, _, _, rfl, ⟨_, hx.1, rfl⟩, ⟨_, hx.2, rfl⟩⟩
  · rintro (⟨rfl, rfl, rfl, rfl⟩ | ⟨rfl, h1, h2, rfl, rfl⟩ | ⟨rfl, rfl, h1, rfl⟩ | ⟨rfl, h1, h2, rfl, rfl⟩ | ⟨rfl, rfl, rfl, a, b, rfl, ⟨x, h1, rfl⟩, ⟨y, h2, rfl⟩⟩)
    · exact ⟨.nil, trivial, rfl⟩
    · exact ⟨.var n, ⟨h1, h2⟩, rfl⟩
    · exact ⟨.sym s, h1, rfl⟩
    · exact ⟨.num n, ⟨h1, h2⟩, rfl⟩
    · exact ⟨.pair x y, ⟨h1, h2⟩, rfl⟩
theorem Tm.Sh_iff' (k n : Int) (s : ByteArray) (l : List Tm) : (Tm.mk k n s l).Sh ↔
    (k = 0 ∧ n = 0 ∧ s = ⟨#[]⟩ ∧ l.length = 0) ∨ (k = 1 ∧ 0 ≤ n ∧ n ≤ 100000 ∧ s = ⟨#[]⟩ ∧ l.length = 0) ∨ (k = 2 ∧ n = 0 ∧ IsNm s ∧ l.length = 0) ∨ (k = 3 ∧ -1000000000 ≤ n ∧ n ≤ 1000000000 ∧ s = ⟨#[]⟩ ∧ l.length = 0) ∨
    (k = 4 ∧ n = 0 ∧ s = ⟨#[]⟩ ∧ l.length = 2 ∧ ∃ a b, l = [a, b] ∧ a.Sh ∧ b.Sh) := by
  have h0 : l.length = 0 ↔ l = [] := List.length_eq_zero_iff
  have h2 : (l.length = 2 ∧ ∃ a b, l = [a, b] ∧ a.Sh ∧ b.Sh) ↔ ∃ a b, l = [a, b] ∧ a.Sh ∧ b.Sh := ⟨fun h => h.2, fun h => ⟨by obtain ⟨a, b, rfl, _⟩ := h; rfl, h⟩⟩
  rw [Tm.Sh_iff, h0, h2]
/-- A shape is ill-formed, a test says. -/
theorem isF {p : Prop} {_ : Decidable p} (h : ¬ p) : Value.bool false = .bool (decide p) := by rw [decide_eq_false h]
theorem isT {p : Prop} {_ : Decidable p} (h : p) : Value.bool true = .bool (decide p) := by rw [decide_eq_true h]
theorem isI {p q : Prop} {_ : Decidable p} {_ : Decidable q} (h : p ↔ q) : Value.bool (decide p) = .bool (decide q) := by simp only [h]
theorem two_of {α : Type} : ∀ {l : List α}, ((l.length : Nat) : Int) = 2 → ∃ a b, l = [a, b]
  | [a, b], _ => ⟨a, b, rfl⟩
  | [], h => by simp at h
  | [_], h => by simp at h
  | _ :: _ :: _ :: _, h => by simp at h; omega
theorem T.tm_inj : ∀ {x y : T}, x.tm = y.tm → x = y
  | .nil, y, h => by cases y <;> simp_all [T.tm]
  | .var n, y, h => by cases y <;> simp_all [T.tm]
  | .sym s, y, h => by cases y <;> simp_all [T.tm]
  | .num n, y, h => by cases y <;> simp_all [T.tm]
  | .pair a b, y, h => by
    cases y <;> simp [T.tm] at h
    rw [T.tm_inj h.1, T.tm_inj h.2]
theorem lift_ok : ∀ {l : List Tm}, (∀ t ∈ l, t.Ok) → ∃ xs : List T, l = xs.map T.tm ∧ ∀ x ∈ xs, x.ok
  | [], _ => ⟨[], rfl, by simp⟩
  | t :: l, h => by
    have hv_ := (h t (by simp)).lift
    obtain ⟨x, h1, rfl⟩ := hv_
    have hv_ := lift_ok (l := l) fun t ht => h t (by simp [ht])
    obtain ⟨xs, rfl, h2⟩ := hv_
    exact ⟨x :: xs, rfl, by simp; exact ⟨h1, h2⟩⟩
end Go.Vx

/- Contracts: which terms are well-formed. -/
namespace Go.Vx
open Go.Proofs Classical
section
variable {μ : Mem}
theorem Tm.cnts_append : ∀ (a c : List Tm), Tm.cnts (a ++ c) = Tm.cnts a + Tm.cnts c
  | [], c => by simp [Tm.cnts]
  | d :: r, c => by simp [Tm.cnts, Tm.cnts_append r c, Nat.add_assoc]
theorem Tm.cnts_take {xs : List Tm} {j : Nat} {x : Tm} (h : xs[j]? = some x) : Tm.cnts (xs.take (j + 1)) = Tm.cnts (xs.take j) + x.cnt := by
  rw [List.take_add_one, h, Option.toList_some, Tm.cnts_append]; simp [Tm.cnts]
theorem Tm.cnts_le (xs : List Tm) (j : Nat) : Tm.cnts (xs.take j) ≤ Tm.cnts xs := by
  have := Tm.cnts_append (xs.take j) (xs.drop j)
  rw [List.take_append_drop] at this; omega
/-- 'l02Count': the nodes, or just above the bound. -/
def upTo (n most : Int) : Int := min n (max most 0 + 1)
theorem l02Count_spec : ∀ (t : Tm) {v : Value} {most : Int}, RepV μ t.d v → -1000000000000 ≤ most → most ≤ 1000000000000 → Gives Tryz.prog 255 [v, .int .i64 most] μ (.int .i64 (upTo t.cnt most)) :=
  Tm.ind fun k n s l ih v most hv h1 h2 => by
    have hv_ := Tm.inv hv
    obtain ⟨base, cap, rfl, hsl⟩ := hv_
    have hn := maxLen_le hsl.max
    refine Spec.mk Tryz.func255 (by kernel_rfl) ?_
    intro r
    refine loop_intro (fun i : Nat => i ≤ l.length) (fun i => ⟨[(1, .val (.int .i64 most)), (5, .val (.int .i64 (upTo (1 + Tm.cnts (l.take i) : Nat) most))), (9, .val (.slice base l.length cap)), (10, .val (.int .i64 l.length)), (11, .val (.int .i64 i))], [], 1, μ, Mem.nil⟩) (fun i => l.length - i)
      0 (by omega) (fun i => ⟨rfl, rfl⟩) ⟨⟨rfl, by show some (SV.val (.int .i64 _)) = some (SV.val (.int .i64 _)); congr 3; simp [Tm.cnts, upTo]; omega, rfl, rfl, rfl, trivial⟩, trivial, rfl, rfl⟩ ?_
    intro i hi
    refine ifd (fun h => ?_) (fun h => ?_)
    · have hv_ := at_some (l := l) (i := i) (by omega)
      obtain ⟨t, ht⟩ := hv_
      have hc := Tm.cnts_take ht
      have hc' := Tm.cnts_le l (i + 1)
      have hv_ := Tm.elem hsl ht
      obtain ⟨ad, p, hel, hr⟩ := hv_
      refine elem_intro hel ?_
      intro r2
      refine ifd (fun h => ret_gives ?_ rfl) (fun h => ?_)
      · simp only [Tm.cnt, upTo] at h ⊢
        congr 1; omega
      · have hb : upTo (1 + Tm.cnts (l.take i) : Nat) most ≤ 1000000000001 ∧ 1 ≤ upTo (1 + Tm.cnts (l.take i) : Nat) most := by unfold upTo; omega
        refine num64 (by omega) (by omega) ?_
        refine call_gives (ih t (mem_at ht) hr (by omega) (by omega)) ?_
        refine num_eq (x := upTo (1 + Tm.cnts (l.take (i + 1)) : Nat) most) ?_ ?_
        · have hb2 : upTo (t.cnt : Int) (most - upTo (1 + Tm.cnts (l.take i) : Nat) most) ≤ 1000000000001 ∧ 1 ≤ upTo (t.cnt : Int) (most - upTo (1 + Tm.cnts (l.take i) : Nat) most) := by
            have := t.cnt_pos
            unfold upTo at hb h ⊢
            omega
          rw [wrap64 (by omega) (by omega), hc]
          unfold upTo at h ⊢; omega
        · exact num64 (by omega) (by omega) ⟨i + 1, by omega, by omega, ⟨⟨rfl, rfl, rfl, rfl, rfl, trivial⟩, trivial, rfl, rfl⟩⟩
    · obtain rfl : i = l.length := by omega
      rw [List.take_length]
      exact ret_gives rfl rfl
set_option maxRecDepth 20000 in
theorem l02Shape_spec : ∀ (t : Tm) {v : Value}, RepV μ t.d v → t.d.wd → Gives Tryz.prog 256 [v] μ (.bool (decide t.Sh)) :=
  Tm.ind fun k n s l ih v hv hw => by
    have hv_ := Tm.inv hv
    obtain ⟨base, cap, rfl, hsl⟩ := hv_
    have hn := maxLen_le hsl.max
    rw [Tm.d_mk] at hw
    have hs : s.size ≤ maxLen := hw.2.2.1
    have hws := D.wds_mem (xs := l.map Tm.d) hw.2.2.2.1
    have hiff := Tm.Sh_iff' k n s l
    refine Spec.mk Tryz.func256 (by kernel_rfl) ?_
    intro r
    repeat' (first
      | refine ifd (fun h => ?_) (fun h => ?_)
      | refine ifnd (fun h => ?_) (fun h => ?_)
      | refine if_intro (fun h => ?_) (fun h => ?_))
    all_goals first
      | (exfalso; clear ih hsl hv hw hws hiff; first | omega | contradiction)
      | (refine ret_gives (isF fun hS => ?_) rfl; clear ih hsl hv hw hws; rcases hiff.1 hS with ⟨e1, e2, e3, e4⟩ | ⟨e1, e2, e3, e4, e5⟩ | ⟨e1, e2, e3, e4⟩ | ⟨e1, e2, e3, e4, e5⟩ | ⟨e1, e2, e3, e4, e5⟩ <;> first | omega | contradiction | (subst_vars; contradiction))
      | (refine ret_gives (isT (hiff.2 (.inl ⟨?_, ?_, ?_, ?_⟩))) rfl <;> first | omega | assumption)
      | (refine call_gives (l01In_spec _ _ _ _) (ret_gives (isI (p := (0 : Int) ≤ n ∧ n ≤ 100000) (hiff.trans ⟨fun hh => ?_, fun hh => .inr (.inl ⟨by omega, hh.1, hh.2, by assumption, by omega⟩)⟩).symm) rfl); rcases hh with ⟨e1, e2, e3, e4⟩ | ⟨e1, e2, e3, e4, e5⟩ | ⟨e1, e2, e3, e4⟩ | ⟨e1, e2, e3, e4, e5⟩ | ⟨e1, e2, e3, e4, e5⟩ <;> first | omega | exact ⟨by omega, by omega⟩)
      | (refine call_gives (l01In_spec _ _ _ _) (ret_gives (isI (p := (-1000000000 : Int) ≤ n ∧ n ≤ 1000000000) (hiff.trans ⟨fun hh => ?_, fun hh => .inr (.inr (.inr (.inl ⟨by omega, hh.1, hh.2, by assumption, by omega⟩)))⟩).symm) rfl); rcases hh with ⟨e1, e2, e3, e4⟩ | ⟨e1, e2, e3, e4, e5⟩ | ⟨e1, e2, e3, e4⟩ | ⟨e1, e2, e3, e4, e5⟩ | ⟨e1, e2, e3, e4, e5⟩ <;> first | omega | exact ⟨by omega, by omega⟩)
      | (refine call_gives (spec_IsName_spec s hs _) (ret_gives (isI (p := IsNm s) (hiff.trans ⟨fun hh => ?_, fun hh => .inr (.inr (.inl ⟨by omega, by omega, hh, by omega⟩))⟩).symm) rfl); rcases hh with ⟨e1, e2, e3, e4⟩ | ⟨e1, e2, e3, e4, e5⟩ | ⟨e1, e2, e3, e4⟩ | ⟨e1, e2, e3, e4, e5⟩ | ⟨e1, e2, e3, e4, e5⟩ <;> first | omega | assumption)
      | skip
    have h2 := h
    have hv_ := two_of h2
    obtain ⟨a, b, rfl⟩ := hv_
    have hv_ := Tm.elem (i := 0) hsl rfl
    obtain ⟨ad, p, hel, hra⟩ := hv_
    have hv_ := Tm.elem (i := 1) hsl rfl
    obtain ⟨ad', p', hel', hrb⟩ := hv_
    refine elem_intro hel (call_gives (ih a (by simp) hra (hws _ (by simp))) ?_)
    refine if_intro (fun h => ?_) (fun h => ?_)
    · refine elem_intro hel' (call_gives (ih b (by simp) hrb (hws _ (by simp))) (ret_gives (isI (hiff.trans ⟨fun hh => ?_, fun hh => ?_⟩).symm) rfl))
      · rcases hh with ⟨e1, e2, e3, e4⟩ | ⟨e1, e2, e3, e4, e5⟩ | ⟨e1, e2, e3, e4⟩ | ⟨e1, e2, e3, e4, e5⟩ | ⟨e1, e2, e3, e4, e5⟩ <;> first | omega | (obtain ⟨a', b', e, e6, e7⟩ := e5; cases e; assumption)
      · exact .inr (.inr (.inr (.inr ⟨by omega, by omega, by assumption, rfl, a, b, rfl, of_decide_eq_true h, hh⟩)))
    · refine ret_gives (isF fun hh => ?_) rfl
      replace hh := hiff.1 hh
      rcases hh with ⟨e1, e2, e3, e4⟩ | ⟨e1, e2, e3, e4, e5⟩ | ⟨e1, e2, e3, e4⟩ | ⟨e1, e2, e3, e4, e5⟩ | ⟨e1, e2, e3, e4, e5⟩ <;> first | omega | (obtain ⟨a', b', e, e6, e7⟩ := e5; cases e; exact absurd e6 (of_decide_eq_false h))
/-- 'nodesOf': the nodes of a well-formed term that fits; else -1. -/
noncomputable def Tm.nodes (t : Tm) (room : Int) : Int := if t.Sh ∧ (t.cnt : Int) ≤ room then t.cnt else -1
theorem Tm.nodes_neg {t : Tm} {room : Int} (h : ¬ (t.Sh ∧ (t.cnt : Int) ≤ room)) : Value.int .i64 (-1) = .int .i64 (t.nodes room) := by rw [Tm.nodes, if_neg h]
theorem Tm.nodes_pos {t : Tm} {room : Int} (h : t.Sh) (h2 : (t.cnt : Int) ≤ room) : t.nodes room = t.cnt := by rw [Tm.nodes, if_pos ⟨h, h2⟩]
theorem Tm.nodes_lt {t : Tm} {room : Int} (h : t.nodes room < 0) : ¬ (t.Sh ∧ (t.cnt : Int) ≤ room) := fun k => by rw [Tm.nodes, if_pos k] at h; omega
theorem Tm.nodes_ge {t : Tm} {room : Int} (h : ¬ t.nodes room < 0) : t.Sh ∧ (t.cnt : Int) ≤ room ∧ t.nodes room = t.cnt := by
  by_cases k : t.Sh ∧ (t.cnt : Int) ≤ room
  · exact ⟨k.1, k.2, by rw [Tm.nodes, if_pos k]⟩
  · rw [Tm.nodes, if_neg k] at h; omega
set_option maxRecDepth 20000 in
theorem nodesOf_spec : ∀ (t : Tm) {v : Value} {room : Int}, RepV μ t.d v → -1000000000000 ≤ room → room ≤ 1000000000000 → Gives Tryz.prog 178 [v, .int .i64 room] μ (.int .i64 (t.nodes room)) :=
  Tm.ind fun k n s l ih v room hv hr1 hr2 => by
    have hv_ := Tm.inv hv
    obtain ⟨base, cap, rfl, hsl⟩ := hv_
    have hn := maxLen_le hsl.max
    have hiff := Tm.Sh_iff' k n s l
    have hone : l.length = 0 → (Tm.mk k n s l).cnt = 1 := fun h => by
      have hv_ := List.eq_nil_of_length_eq_zero h
      obtain rfl := hv_
      rfl
    have hpos := Tm.cnt_pos (.mk k n s l)
    refine Spec.mk Tryz.func178 (by kernel_rfl) ?_
    intro r
    refine ifd (fun h0 => ret_gives (Tm.nodes_neg fun hh => by omega) rfl) (fun h0 => ?_)
    have hgood : (Tm.mk k n s l).Sh → l.length = 0 → Value.int .i64 1 = .int .i64 ((Tm.mk k n s l).nodes room) := fun h1 h2 => by
      have := hone h2
      rw [Tm.nodes_pos h1 (by omega), this]; rfl
    refine ifnd (fun hk => ?_) (fun hk => ?_)
    · repeat' (first
        | refine ifd (fun h => ?_) (fun h => ?_)
        | refine ifnd (fun h => ?_) (fun h => ?_)
        | refine if_intro (fun h => ?_) (fun h => ?_)
        | refine call_gives (impl_IsName_spec s _) ?_)
      all_goals first
        | (exfalso; clear ih hsl hv hiff; first | omega | contradiction)
        | (refine ret_gives (Tm.nodes_neg fun hS => ?_) rfl; have hh := hiff.1 hS.1; clear ih hsl hv; rcases hh with ⟨e1, e2, e3, e4⟩ | ⟨e1, e2, e3, e4, e5⟩ | ⟨e1, e2, e3, e4⟩ | ⟨e1, e2, e3, e4, e5⟩ | ⟨e1, e2, e3, e4, e5⟩ <;> first | omega | contradiction | (subst_vars; contradiction))
        | (refine ret_gives (hgood (hiff.2 (.inl ⟨?_, ?_, ?_, ?_⟩)) (by omega)) rfl <;> first | omega | assumption; done)
        | (refine ret_gives (hgood (hiff.2 (.inr (.inl ⟨?_, ?_, ?_, ?_, ?_⟩))) (by omega)) rfl <;> first | omega | assumption; done)
        | (refine ret_gives (hgood (hiff.2 (.inr (.inr (.inl ⟨?_, ?_, ?_, ?_⟩)))) (by omega)) rfl <;> first | omega | assumption; done)
        | (refine ret_gives (hgood (hiff.2 (.inr (.inr (.inr (.inl ⟨?_, ?_, ?_, ?_, ?_⟩))))) (by omega)) rfl <;> first | omega | assumption; done)
        | trace_state
    · refine ifnd (fun h1 => ?_) (fun h1 => ?_)
      · refine ret_gives (Tm.nodes_neg fun hS => ?_) rfl; have hh := hiff.1 hS.1; clear ih hsl hv
        rcases hh with ⟨e1, e2, e3, e4⟩ | ⟨e1, e2, e3, e4, e5⟩ | ⟨e1, e2, e3, e4⟩ | ⟨e1, e2, e3, e4, e5⟩ | ⟨e1, e2, e3, e4, e5⟩ <;> omega
      refine ifnd (fun h2 => ?_) (fun h2 => ?_)
      · refine ret_gives (Tm.nodes_neg fun hS => ?_) rfl; have hh := hiff.1 hS.1; clear ih hsl hv
        rcases hh with ⟨e1, e2, e3, e4⟩ | ⟨e1, e2, e3, e4, e5⟩ | ⟨e1, e2, e3, e4⟩ | ⟨e1, e2, e3, e4, e5⟩ | ⟨e1, e2, e3, e4, e5⟩ <;> first | omega | contradiction
      refine ifnd (fun h3 => ?_) (fun h3 => ?_)
      · refine ret_gives (Tm.nodes_neg fun hS => ?_) rfl; have hh := hiff.1 hS.1; clear ih hsl hv
        rcases hh with ⟨e1, e2, e3, e4⟩ | ⟨e1, e2, e3, e4, e5⟩ | ⟨e1, e2, e3, e4⟩ | ⟨e1, e2, e3, e4, e5⟩ | ⟨e1, e2, e3, e4, e5⟩ <;> omega
      have hv_ := two_of h3
      obtain ⟨a, b, rfl⟩ := hv_
      have hcnt : (Tm.mk k n s [a, b]).cnt = 1 + a.cnt + b.cnt := by simp [Tm.cnt, Tm.cnts]; omega
      have hsh : (Tm.mk k n s [a, b]).Sh → a.Sh ∧ b.Sh := fun hS => by
        have hh := hiff.1 hS
        rcases hh with ⟨e1, e2, e3, e4⟩ | ⟨e1, e2, e3, e4, e5⟩ | ⟨e1, e2, e3, e4⟩ | ⟨e1, e2, e3, e4, e5⟩ | ⟨e1, e2, e3, e4, e5⟩ <;> first | omega | (obtain ⟨a', b', e, e6, e7⟩ := e5; cases e; exact ⟨e6, e7⟩)
      have hv_ := Tm.elem (i := 0) hsl rfl
      obtain ⟨ad, p, hel, hra⟩ := hv_
      have hv_ := Tm.elem (i := 1) hsl rfl
      obtain ⟨ad', p', hel', hrb⟩ := hv_
      refine elem_intro hel (num64 (by omega) (by omega) (call_gives (ih a (by simp) hra (by omega) (by omega)) ?_))
      refine ifd (fun h4 => ?_) (fun h4 => ?_)
      · have := Tm.nodes_lt h4
        refine ret_gives (Tm.nodes_neg fun hS => this ⟨(hsh hS.1).1, ?_⟩) rfl
        have := hS.2; rw [hcnt] at this; omega
      have hv_ := Tm.nodes_ge h4
      obtain ⟨g1, g2, g3⟩ := hv_
      have := a.cnt_pos
      refine elem_intro hel' (num64 (by omega) (by omega) (num64 (by omega) (by omega) (call_gives (ih b (by simp) hrb (by omega) (by omega)) ?_)))
      refine ifd (fun h5 => ?_) (fun h5 => ?_)
      · have := Tm.nodes_lt h5
        refine ret_gives (Tm.nodes_neg fun hS => this ⟨(hsh hS.1).2, ?_⟩) rfl
        have := hS.2; rw [hcnt] at this; omega
      have hv_ := Tm.nodes_ge h5
      obtain ⟨g4, g5, g6⟩ := hv_
      refine num64 (by omega) (by omega) (num64 (by omega) (by omega) (ret_gives ?_ rfl))
      rw [Tm.nodes_pos (hiff.2 (.inr (.inr (.inr (.inr ⟨by omega, by omega, by assumption, rfl, a, b, rfl, g1, g4⟩))))) (by rw [hcnt]; omega), hcnt]
      congr 1; omega
end
end Go.Vx

/- Contracts: well-formed terms, lists of them; ground terms. -/
namespace Go.Vx
open Go.Proofs Classical
section
variable {μ : Mem}
theorem spec_TermOk_spec (t : Tm) {v : Value} (hv : RepV μ t.d v) (hw : t.d.wd) : Gives Tryz.prog 174 [v] μ (.bool (decide t.Ok)) := by
  have hv_ := Tm.invV hv
  obtain ⟨p, rfl⟩ := hv_
  refine Spec.mk Tryz.func174 (by kernel_rfl) ?_
  intro r
  refine call_gives (l02Count_spec t hv (by decide) (by decide)) ?_
  refine ifd (fun h => ?_) (fun h => ret_gives (isF fun hh => ?_) rfl)
  · refine call_gives (l02Shape_spec t hv hw) (ret_gives (isI ⟨fun hh => ⟨hh, ?_⟩, fun hh => hh.1⟩) rfl)
    unfold upTo at h; omega
  · have := hh.2; unfold upTo at h; omega
theorem impl_TermOk_spec (t : Tm) {v : Value} (hv : RepV μ t.d v) : Gives Tryz.prog 89 [v] μ (.bool (decide t.Ok)) := by
  have hv_ := Tm.invV hv
  obtain ⟨p, rfl⟩ := hv_
  refine Spec.mk Tryz.func89 (by kernel_rfl) ?_
  intro r
  refine call_gives (nodesOf_spec t hv (by decide) (by decide)) (ret_gives (isI ⟨fun hh => ?_, fun hh => ?_⟩) rfl)
  · have hv_ := Tm.nodes_ge (by omega : ¬ t.nodes 5000 < 0)
    obtain ⟨h1, h2, _⟩ := hv_
    exact ⟨h1, by omega⟩
  · rw [Tm.nodes_pos hh.1 (by have := hh.2; omega)]
    have := t.cnt_pos; omega
theorem l02AllOk_spec {l : List Tm} {base : Option Addr} {cap : Nat} (hsl : Sl μ 4 base l.length (l.map Tm.d)) (hw : D.wds (l.map Tm.d)) : Gives Tryz.prog 229 [.slice base l.length cap] μ (.bool (decide (∀ t ∈ l, t.Ok))) := by
    have hn := maxLen_le hsl.max
    refine Spec.mk Tryz.func229 (by kernel_rfl) ?_
    refine loop_intro (fun i : Nat => i ≤ l.length ∧ ∀ t ∈ l.take i, t.Ok) (fun i => ⟨[(5, .val (.slice base l.length cap)), (6, .val (.int .i64 l.length)), (7, .val (.int .i64 i))], [], 0, μ, Mem.nil⟩) (fun i => l.length - i)
      0 ⟨by omega, by simp⟩ (fun i => ⟨rfl, rfl⟩) ⟨⟨rfl, rfl, rfl, trivial⟩, trivial, rfl, rfl⟩ ?_
    rintro i ⟨hi, hall⟩
    refine ifd (fun h => ?_) (fun h => ?_)
    · have hv_ := at_some (l := l) (i := i) (by omega)
      obtain ⟨t, ht⟩ := hv_
      have hv_ := Tm.elem hsl ht
      obtain ⟨ad, p, hel, hr⟩ := hv_
      refine elem_intro hel ?_
      intro r
      refine call_gives (spec_TermOk_spec t hr (D.wds_mem hw _ (mem_at (at_map (f := Tm.d) ht)))) ?_
      refine ifnd (fun h => ret_gives (isF fun hh => h (hh t (mem_at ht))) rfl) (fun h => ?_)
      refine num64 (by omega) (by omega) ⟨i + 1, ⟨by omega, fun x hx => ?_⟩, by omega, ⟨⟨rfl, rfl, rfl, trivial⟩, trivial, rfl, rfl⟩⟩
      rw [List.take_add_one, ht, Option.toList_some, List.mem_append, List.mem_singleton] at hx
      rcases hx with hx | rfl
      · exact hall x hx
      · exact h
    · obtain rfl : i = l.length := by omega
      rw [List.take_length] at hall
      exact ret_gives (isT hall) rfl
theorem termsOk_spec {l : List Tm} {base : Option Addr} {cap : Nat} (hsl : Sl μ 4 base l.length (l.map Tm.d)) : Gives Tryz.prog 235 [.slice base l.length cap] μ (.bool (decide (∀ t ∈ l, t.Ok))) := by
    have hn := maxLen_le hsl.max
    refine Spec.mk Tryz.func235 (by kernel_rfl) ?_
    refine loop_intro (fun i : Nat => i ≤ l.length ∧ ∀ t ∈ l.take i, t.Ok) (fun i => ⟨[(5, .val (.slice base l.length cap)), (6, .val (.int .i64 l.length)), (7, .val (.int .i64 i))], [], 0, μ, Mem.nil⟩) (fun i => l.length - i)
      0 ⟨by omega, by simp⟩ (fun i => ⟨rfl, rfl⟩) ⟨⟨rfl, rfl, rfl, trivial⟩, trivial, rfl, rfl⟩ ?_
    rintro i ⟨hi, hall⟩
    refine ifd (fun h => ?_) (fun h => ?_)
    · have hv_ := at_some (l := l) (i := i) (by omega)
      obtain ⟨t, ht⟩ := hv_
      have hv_ := Tm.elem hsl ht
      obtain ⟨ad, p, hel, hr⟩ := hv_
      refine elem_intro hel ?_
      intro r
      refine call_gives (impl_TermOk_spec t hr) ?_
      refine ifnd (fun h => ret_gives (isF fun hh => h (hh t (mem_at ht))) rfl) (fun h => ?_)
      refine num64 (by omega) (by omega) ⟨i + 1, ⟨by omega, fun x hx => ?_⟩, by omega, ⟨⟨rfl, rfl, rfl, trivial⟩, trivial, rfl, rfl⟩⟩
      rw [List.take_add_one, ht, Option.toList_some, List.mem_append, List.mem_singleton] at hx
      rcases hx with hx | rfl
      · exact hall x hx
      · exact h
    · obtain rfl : i = l.length := by omega
      rw [List.take_length] at hall
      exact ret_gives (isT hall) rfl
end
end Go.Vx

/- Contracts: the variables of a term, visited in order; ground terms. -/
namespace Go.Vx
open Go.Proofs Classical
theorem box_at {μ : Mem} {r : Nat} {x : Value} {ty : TypeId} (h : μ r = some (.cells #[x] ty (0, 0))) : ∀ j v, [x][j]? = some v → μ.cell ((⟨r, 0, none⟩ : Addr).add j) = some v := fun j v hj => by
  match j, hj with
  | 0, hj => cases hj; simp [Mem.cell, Addr.add_lit', h]
section
variable {μ : Mem}
/-- The parts of a pair. -/
theorem T.parts {a b : T} {base : Option Addr} {n : Nat} (h : Sl μ 4 base n ([a.tm, b.tm].map Tm.d)) : ∃ ad ad', ∃ p p' : Option Addr × Nat, ElemAt μ base n 4 ((0 : Nat) : Int) ad (a.tm.cs p) ∧ ElemAt μ base n 4 ((1 : Nat) : Int) ad' (b.tm.cs p') ∧ RepV μ a.tm.d (.agg (a.tm.cs p).toArray) ∧ RepV μ b.tm.d (.agg (b.tm.cs p').toArray) := by
  have hv_ := Tm.elem (i := 0) h rfl
  obtain ⟨ad, p, h1, h2⟩ := hv_
  have hv_ := Tm.elem (i := 1) h rfl
  obtain ⟨ad', p', h3, h4⟩ := hv_
  exact ⟨ad, ad', p, p', h1, h3, h2, h4⟩
theorem set_self (h : Mem) (r : Nat) (o : Obj) : h.set r o r = some o := by simp [Mem.set_get]
end
end Go.Vx

/- Contracts: sets of numbers; the variables of a term as the reference lists them. -/
namespace Go.Vx
open Go.Proofs Classical
def ints (l : List Int) : List Value := l.map fun n => .int .i64 n
theorem ints_flat : ∀ l : List Int, (ints l).flatMap vcells = ints l
  | [] => rfl
  | n :: l => by
    have := ints_flat l
    simp only [ints] at this ⊢
    simp [this, vcells]
section
variable {μ : Mem}
theorem Ints.elem {l : List Int} {base : Option Addr} {n : Nat} (h : Sl μ 1 base n (l.map D.i)) {i : Nat} {x : Int} (hx : l[i]? = some x) : ∃ ad, ElemAt μ base n 1 i ad [.int .i64 x] := by
  have hv_ := h.get i (.i x) (by simp [hx])
  obtain ⟨ad, cs, h1, h2⟩ := hv_
  have h2 : cs = [.int .i64 x] := h2
  subst h2
  exact ⟨ad, h1⟩
theorem Ints.rows : ∀ l : List Int, Rows μ 1 (l.map D.i) (ints l)
  | [] => .nil
  | n :: l => .cons (show RepV μ (.i n) (.int .i64 n) from rfl) rfl (Ints.rows l)
theorem Ints.sl {b : Option Nat} {cap : Nat} {l : List Int} (h : RowAt μ b cap 1 (ints l)) (hm : l.length ≤ maxLen) : RepV μ (.sl 1 (l.map D.i)) (.slice (b.map fun r => ⟨r, 0, none⟩) (ints l).length cap) :=
  Rows.sl h (Ints.rows l) (by simpa [ints] using hm)
theorem Ints.src {l : List Int} {base : Option Addr} (h : Sl μ 1 base l.length (l.map D.i)) {a b cap : Nat} (hab : a ≤ b) (hb : b ≤ l.length) (hc : l.length ≤ cap) : SrcAt μ (if cap = a then base else base.map (·.add (a * 1))) (b - a) 1 (ints ((l.drop a).take (b - a))) := by
  refine ⟨by simp [ints]; omega, fun y hy => ?_, ?_⟩
  · have hv_ := List.mem_map.1 hy
    obtain ⟨n, _, rfl⟩ := hv_
    exact ⟨rfl, fun u hu => by simp [vcells] at hu; subst hu; rfl⟩
  · rcases Nat.eq_or_lt_of_le hab with h0 | h0
    · exact .inl (by omega)
    · right
      have hv_ := at_some (l := l) (i := a) (by omega)
      obtain ⟨x, hx⟩ := hv_
      have hv_ := Ints.elem h hx
      obtain ⟨_, hel⟩ := hv_
      obtain ⟨a0, e, _⟩ := hel.addr
      refine ⟨a0.add (a * 1), by rw [if_neg (by omega), e]; rfl, fun j v hj => ?_⟩
      rw [ints_flat] at hj
      simp only [ints, List.getElem?_map] at hj
      have hv_ := Option.map_eq_some_iff.1 hj
      obtain ⟨y, hy, rfl⟩ := hv_
      rw [List.getElem?_take] at hy
      split at hy
      · rw [List.getElem?_drop] at hy
        have hv_ := Ints.elem h hy
        obtain ⟨ad, hel2⟩ := hv_
        obtain ⟨a1, e1, e2⟩ := hel2.addr
        rw [e] at e1
        cases e1
        have := hel2.cell 0 _ rfl
        rw [e2, add_add] at this
        rw [add_add]
        rw [← this]
        congr 2
        simp
        omega
      · cases hy
def insInt (l : List Int) (n : Int) (k : Nat) : List Int := l.take k ++ ([n] ++ l.drop k)
theorem insInt_mem (l : List Int) (n : Int) (k : Nat) (x : Int) : x ∈ insInt l n k ↔ x = n ∨ x ∈ l := by
  have := List.take_append_drop k l
  have h2 : x ∈ l ↔ x ∈ l.take k ∨ x ∈ l.drop k := by rw [← List.mem_append, this]
  simp only [insInt, List.mem_append, List.mem_singleton, h2]
  constructor
  · rintro (h | h | h) <;> simp [h]
  · rintro (h | h | h) <;> simp [h]
theorem flatMap_take_le {α β : Type} (f : α → List β) (l : List α) (i : Nat) : ((l.take i).flatMap f).length ≤ (l.flatMap f).length := by
  have := congrArg (fun l => (l.flatMap f).length) (List.take_append_drop i l)
  simp only [List.flatMap_append, List.length_append] at this
  omega
/-- What a call has made may be forgotten. -/
theorem Spec.forget {P : Program} {f : FuncId} {args : List Value} {R : Value → Prop} (h : Spec P f args μ fun v _ => R v) : Spec P f args μ fun v μ' => R v ∧ μ' = μ := by
  refine ⟨h.1, fun w hm hh hap => (h.2 w hm hh hap).mono ?_⟩
  rintro e w' ⟨v, μ', h', rfl, hr, hS⟩
  exact ⟨v, μ, Mem.nil, rfl, ⟨hr, rfl⟩, ⟨Mem.Le.refl μ, hS.mem.le hS.le, holds_nil w', apart_nil _, fun b h1 h2 => absurd h1 h2, fun b hb => absurd rfl hb, hS.size, hS.keep, hS.os, hS.tape, hS.output⟩⟩
/-- The parts of a term. -/
def T.args : T → List T
  | .pair a b => [a, b]
  | .nil => []
  | .var _ => []
  | .sym _ => []
  | .num _ => []
theorem T.ind {p : T → Prop} (h : ∀ x : T, (∀ y ∈ x.args, p y) → p x) : ∀ x, p x
  | .pair a b => by
    have ha := T.ind h a
    have hb := T.ind h b
    refine h _ fun y hy => ?_
    simp only [T.args, List.mem_cons, List.not_mem_nil, or_false] at hy
    rcases hy with rfl | rfl
    · exact ha
    · exact hb
  | .nil => h _ fun y hy => by simp [T.args] at hy
  | .var _ => h _ fun y hy => by simp [T.args] at hy
  | .sym _ => h _ fun y hy => by simp [T.args] at hy
  | .num _ => h _ fun y hy => by simp [T.args] at hy
theorem T.tm_args (x : T) : x.tm.args = x.args.map T.tm := by cases x <;> rfl
theorem T.vars_args {x : T} (h : x.tm.kind ≠ 1) : x.vars = x.args.flatMap T.vars := by
  cases x <;> simp_all [T.vars, T.args, T.tm, Tm.kind]
theorem T.vars_size : ∀ x : T, x.vars.length ≤ x.size
  | .nil => by simp [T.vars]
  | .var _ => by simp [T.vars, T.size]
  | .sym _ => by simp [T.vars]
  | .num _ => by simp [T.vars]
  | .pair a b => by
    have := T.vars_size a
    have := T.vars_size b
    simp [T.vars, T.size]; omega
end
end Go.Vx

/- Contracts: lists of bindings, and the reference's substitutions. -/
namespace Go.Vx
open Go.Proofs Classical
/-! ### Plain -/
noncomputable def Tm.toT (t : Tm) : T := if h : ∃ x : T, x.tm = t then h.choose else .nil
theorem T.toT_tm (x : T) : x.tm.toT = x := by
  have h : ∃ y : T, y.tm = x.tm := ⟨x, rfl⟩
  rw [Tm.toT, dif_pos h]
  exact T.tm_inj h.choose_spec
theorem Tm.Ok.toT {t : Tm} (h : t.Ok) : t.toT.ok ∧ t.toT.tm = t := by
  obtain ⟨x, h1, rfl⟩ := h.lift
  rw [T.toT_tm]; exact ⟨h1, rfl⟩
structure B where
  var : Int
  to : T
def B.bd (b : B) : Bd := ⟨b.var, b.to.tm⟩
noncomputable def Bd.b (b : Bd) : B := ⟨b.var, b.to.toT⟩
/-- Binding i of a list is fine. -/
def okAt (l : List Bd) (i : Nat) (b : Bd) : Prop := (0 ≤ b.var ∧ b.var ≤ 100000) ∧ b.to.Ok ∧ ∀ j c, j + 1 = i → l[j]? = some c → c.var < b.var
def valsOk (l : List Bd) : Prop := l.length ≤ 400 ∧ ∀ i b, l[i]? = some b → okAt l i b
theorem valsOk.lift {l : List Bd} (h : valsOk l) : (l.map Bd.b).map B.bd = l ∧ (∀ b ∈ l.map Bd.b, b.to.ok) := by
  have h2 : ∀ b ∈ l, b.to.Ok := fun b hb => by
    have hv_ := List.mem_iff_getElem?.1 hb
    obtain ⟨i, hi⟩ := hv_
    exact (h.2 i b hi).2.1
  clear h
  induction l with
  | nil => simp
  | cons b l ih =>
    have h1 := (h2 b (by simp)).toT
    have hv_ := ih fun b hb => h2 b (by simp [hb])
    obtain ⟨i1, i2⟩ := hv_
    refine ⟨?_, ?_⟩
    · simp only [List.map_cons, i1, Bd.b, B.bd, h1.2]
    · intro c hc
      simp only [List.map_cons, List.mem_cons] at hc
      rcases hc with rfl | hc
      · exact h1.1
      · exact i2 c hc
def sub : List B → Int → Option T
  | [], _ => none
  | b :: r, n => if b.var = n then some b.to else sub r n
def T.subst (f : Int → Option T) : T → T
  | .var n => (f n).getD (.var n)
  | .pair a b => .pair (a.subst f) (b.subst f)
  | .nil => .nil
  | .sym s => .sym s
  | .num n => .num n
theorem drop_at {α : Type} {l : List α} {i : Nat} {a : α} (h : l[i]? = some a) : l.drop i = a :: l.drop (i + 1) := by
  have hv_ := List.getElem?_eq_some_iff.1 h
  obtain ⟨h1, h2⟩ := hv_
  rw [List.drop_eq_getElem_cons h1, h2]
/-- A term and whether it is one. -/
def optV (P : T → Value → Prop) (o : Option T) (v : Value) : Prop := match o with
  | some y => ∃ tv, v = .tuple #[tv, .bool true] ∧ P y tv
  | none => v = .tuple #[.agg #[.int .i64 0, .int .i64 0, .string ⟨#[]⟩, .slice none 0 0], .bool false]
section
variable {μ : Mem}
theorem T.fits (x : T) : (upTo (x.size : Int) 5000 ≤ 5000) ↔ x.size ≤ 5000 := by unfold upTo; omega
/-- An element's term. -/
theorem Bd.toV {b : Bd} {p : Option Addr × Nat} (h : RepV μ b.d (.agg (b.cs p).toArray)) : RepV μ b.to.d (.agg (b.to.cs p).toArray) := by
  have hv_ := Bd.inv h
  obtain ⟨q, e, hto⟩ := hv_
  have hq : q = p := by
    have h2 := congrArg (fun v => match v with | Value.agg a => a[4]? | _ => none) e
    simp [Bd.cs] at h2
    exact Prod.ext h2.1.symm h2.2.symm
  rw [← hq]; exact hto
/-! ### The reference's -/
theorem l02Pair_spec {a b : T} {va vb : Value} (ha : RepV μ a.tm.d va) (hb : RepV μ b.tm.d vb) : Spec Tryz.prog 287 [va, vb] μ fun v μ' => RepV μ' (T.pair a b).tm.d v := by
  have hv_ := Tm.invV ha
  obtain ⟨p, rfl⟩ := hv_
  have hv_ := Tm.invV hb
  obtain ⟨q, rfl⟩ := hv_
  refine Spec.mk Tryz.func287 (by kernel_rfl) ?_
  intro r1 r2 r3 r4
  refine ret_frz [3] fun μ' hle hno hrow => .inl ?_
  rw [T.tm, Tm.d_mk]
  exact ⟨_, rfl, RepS.int (RepS.int (RepS.str (RepS.last (Rows.sl hrow (.cons (ha.mono hle) (Tm.d_n _) (.cons (hb.mono hle) (Tm.d_n _) .nil)) (show 2 ≤ maxLen by decide)))))⟩
theorem l04Get_spec {bs : List B} {base : Option Addr} {cap : Nat} {n : Int} (hsl : Sl μ 5 base bs.length ((bs.map B.bd).map Bd.d)) :
    Spec Tryz.prog 168 [.slice base bs.length cap, .int .i64 n] μ fun v μ' => optV (fun y tv => RepV μ y.tm.d tv) (sub bs n) v ∧ μ' = μ := by
  have hn := maxLen_le hsl.max
  refine Spec.mk Tryz.func168 (by kernel_rfl) ?_
  intro r
  refine loop_intro (fun i : Nat => i ≤ bs.length ∧ sub bs n = sub (bs.drop i) n) (fun i => ⟨[(1, .val (.int .i64 n)), (4, .loc 0 r 0), (8, .val (.slice base bs.length cap)), (9, .val (.int .i64 bs.length)), (10, .val (.int .i64 i))], [(0, some (.cells r [.val (.int .i64 0), .val (.int .i64 0), .val (.string ⟨#[]⟩), .val (.slice none 0 0)] 44))], 1, μ, Mem.nil⟩) (fun i => bs.length - i)
    0 ⟨by omega, rfl⟩ (fun i => ⟨rfl, rfl⟩) ⟨⟨rfl, rfl, rfl, rfl, rfl, trivial⟩, ⟨rfl, trivial⟩, rfl, rfl⟩ ?_
  rintro i ⟨hi, he⟩
  refine ifd (fun h => ?_) (fun h => ?_)
  · have hv_ := at_some (l := bs) (i := i) (by omega)
    obtain ⟨b, hb⟩ := hv_
    have hb' : (bs.map B.bd)[i]? = some b.bd := by simp [hb]
    have hv_ := Bd.elem hsl hb'
    obtain ⟨ad, p, hel, hr⟩ := hv_
    have hto := Bd.toV hr
    rw [drop_at hb] at he
    refine elem_intro hel ?_
    intro r2
    refine ifd (fun h2 => ?_) (fun h2 => ?_)
    · have h2 : b.var = n := h2
      have e2 : sub bs n = some b.to := by rw [he, sub, if_pos h2]
      rw [e2]
      exact ret_plain ⟨⟨_, rfl, hto⟩, rfl⟩
    · have h2 : ¬ b.var = n := h2
      have e2 : sub bs n = sub (bs.drop (i + 1)) n := by rw [he, sub, if_neg h2]
      exact num64 (by omega) (by omega) ⟨i + 1, ⟨by omega, e2⟩, by omega, ⟨⟨rfl, rfl, rfl, rfl, rfl, trivial⟩, ⟨rfl, trivial⟩, rfl, rfl⟩⟩
  · obtain rfl : i = bs.length := by omega
    rw [List.drop_length] at he
    rw [he]
    exact ret_plain ⟨rfl, rfl⟩
theorem l04Put_spec {bs : List B} {base : Option Addr} {cap : Nat} : ∀ (x : T) {μ : Mem} {v : Value}, Sl μ 5 base bs.length ((bs.map B.bd).map Bd.d) → RepV μ x.tm.d v →
    Spec Tryz.prog 201 [.slice base bs.length cap, v] μ fun v μ' => RepV μ' (x.subst (sub bs)).tm.d v := by
  intro x
  induction x with
  | var n =>
    intro μ v hsl hv
    have hv_ := Tm.invV hv
    obtain ⟨p, rfl⟩ := hv_
    refine Spec.mk Tryz.func201 (by kernel_rfl) ?_
    intro r1 r2
    refine ifd (fun _ => ?_) (fun h => absurd rfl h)
    refine call_plain (l04Get_spec hsl) fun v' μ' hle hR => ?_
    obtain ⟨hR, e2⟩ := hR
    obtain rfl := e2.symm
    have hR : optV (fun y tv => RepV μ y.tm.d tv) (sub bs n) v' := hR
    simp only [T.subst]
    cases hs : sub bs n with
    | some y =>
      rw [hs] at hR
      obtain ⟨tv, rfl, htv⟩ := hR
      have hv_ := Tm.invV htv
      obtain ⟨q, rfl⟩ := hv_
      intro r3
      refine if_intro (fun _ => ret_plain htv) (fun h => nomatch h)
    | none =>
      rw [hs] at hR
      obtain rfl := hR
      intro r3
      refine if_intro (fun h => nomatch h) (fun _ => ?_)
      refine ifd (fun h => absurd h (by simp [T.tm, Tm.kind])) (fun _ => ?_)
      exact ret_plain hv
  | pair a b iha ihb =>
    intro μ v hsl hv
    have hv_ := Tm.inv hv
    obtain ⟨base', cap', rfl, hsa⟩ := hv_
    have hv_ := T.parts hsa
    obtain ⟨ad, ad', p, p', h1, h2, hra, hrb⟩ := hv_
    refine Spec.mk Tryz.func201 (by kernel_rfl) ?_
    intro r1 r2
    refine ifd (fun h => absurd h (by simp)) (fun _ => ?_)
    refine ifd (fun _ => ?_) (fun h => absurd rfl h)
    refine elem_intro h1 ?_
    refine elem_intro h2 ?_
    refine call_plain (iha hsl hra) fun v1 μ1 hle1 hR1 => ?_
    refine call_plain (ihb (hsl.mono hle1) (hrb.mono hle1)) fun v2 μ2 hle2 hR2 => ?_
    refine call_plain (l02Pair_spec (hR1.mono hle2) hR2) fun v3 μ3 hle3 hR3 => ?_
    have hv_ := Tm.invV hR3
    obtain ⟨q, rfl⟩ := hv_
    exact ret_plain hR3
  | _ =>
    intro μ v hsl hv
    have hv_ := Tm.invV hv
    obtain ⟨p, rfl⟩ := hv_
    refine Spec.mk Tryz.func201 (by kernel_rfl) ?_
    intro r1 r2
    refine ifd (fun h => absurd h (by simp [T.tm, Tm.kind])) (fun _ => ?_)
    refine ifd (fun h => absurd h (by simp [T.tm, Tm.kind])) (fun _ => ?_)
    exact ret_plain hv
end
end Go.Vx

/- Contracts: copies; the reference's Instantiate. -/
namespace Go.Vx
open Go.Proofs Classical
theorem T.d_eq (x : T) : x.tm.d = .st [.i x.tm.kind, .i x.tm.num, .s x.tm.name, .sl 4 ((x.args.map T.tm).map Tm.d)] := by
  rw [Tm.d_eq, T.tm_args]
theorem T.inv {μ : Mem} {x : T} {w : Value} (hw : RepV μ x.tm.d w) : ∃ base cap, w = .agg #[.int .i64 x.tm.kind, .int .i64 x.tm.num, .string x.tm.name, .slice base x.args.length cap] ∧ Sl μ 4 base x.args.length ((x.args.map T.tm).map Tm.d) := by
  have h1 := Tm.inv (k := x.tm.kind) (n := x.tm.num) (s := x.tm.name) (l := x.tm.args) (v := w) (by cases x <;> exact hw)
  rw [T.tm_args, List.length_map] at h1
  exact h1
theorem T.args_le (x : T) : x.args.length ≤ 2 := by cases x <;> simp [T.args]
theorem l02Copy_spec : ∀ (x : T) {μ : Mem} {v : Value}, RepV μ x.tm.d v → Spec Tryz.prog 176 [v] μ fun v μ' => RepV μ' x.tm.d v :=
  T.ind fun x ih μ v hv => by
    have hv_ := T.inv hv
    obtain ⟨base, cap, rfl, hsl⟩ := hv_
    have hn := T.args_le x
    refine Spec.mk Tryz.func176 (by kernel_rfl) ?_
    intro r1 r2 r3
    refine loop_nil (fun p : Nat × Option Nat × Nat × List Value × Mem => p.1 ≤ x.args.length ∧ μ.Le p.2.2.2.2 ∧ Rows p.2.2.2.2 4 (((x.args.take p.1).map T.tm).map Tm.d) p.2.2.2.1)
      (fun (i, b, c, ys, μ') => ⟨[(2, .loc 1 r2 0), (3, .loc 2 r3 0), (14, .val (.slice base x.args.length cap)), (15, .val (.int .i64 x.args.length)), (16, .val (.int .i64 i))],
        [(1, some (.cells r2 [.val (.int .i64 0), .val (.int .i64 0), .val (.string ⟨#[]⟩), .val (.slice none 0 0)] 44)), (2, some (.cells r3 [.val (.int .i64 x.tm.kind), .val (.int .i64 x.tm.num), .val (.string x.tm.name), .row 3 b ys.length c] 44)), (3, some (.row b c 44 4 ys))], 4, μ', Mem.nil⟩) (fun p => x.args.length - p.1)
      (0, none, 0, [], μ) ⟨by simp, Mem.Le.refl μ, .nil⟩ (fun (_, _, _, _, _) => ⟨rfl, rfl⟩) ⟨⟨⟨_, rfl, .inl rfl⟩, ⟨_, rfl, .inl rfl⟩, ⟨_, rfl, .inl rfl⟩, ⟨_, rfl, .inl rfl⟩, ⟨_, rfl, .inl rfl⟩, trivial⟩, ⟨.inl rfl, .inr (.inr ⟨_, _, _, _, rfl, rfl, .inl rfl, .inl rfl, .inl rfl, .inr ⟨3, rfl, rfl, Nat.le_refl _⟩, trivial⟩), .inr (.inl ⟨_, _, rfl, Nat.le_refl _⟩), trivial⟩, rfl, rfl⟩ ?_
    rintro ⟨i, b, c, ys, μ'⟩ ⟨hi, hle, hrows⟩
    dsimp only at hi hle hrows
    have hlen := hrows.len
    simp only [List.length_map, List.length_take] at hlen
    refine ifd (fun h => ?_) (fun h => ?_)
    · have hv_ := at_some (l := x.args) (i := i) (by omega)
      obtain ⟨t, ht⟩ := hv_
      have ht' : (x.args.map T.tm)[i]? = some t.tm := by simp [ht]
      have hv_ := Tm.elem (hsl.mono hle) ht'
      obtain ⟨ad, p, hel, hr⟩ := hv_
      refine elem_intro hel ?_
      intro r4
      refine call_plain (ih t (mem_at ht) hr) fun v' μ'' hle2 hR => ?_
      have hv_ := Tm.invV hR
      obtain ⟨q, rfl⟩ := hv_
      intro r5
      refine grow_intro ?_ ?_ fun b' c' _ => ?_
      · show (ys.length + 1) * 56 ≤ _; omega
      · show ys.length + 1 ≤ 9223372036854775807; omega
      have hsucc : ((x.args.take (i + 1)).map T.tm).map Tm.d = ((x.args.take i).map T.tm).map Tm.d ++ [t.tm.d] := by
        rw [List.take_add_one, ht, Option.toList_some]; simp
      exact num64 (by omega) (by omega) ⟨(i + 1, b', c', _, μ''), ⟨by dsimp only; omega, hle.trans hle2, by rw [hsucc]; exact (hrows.mono hle2).append (Rows.one hR (Tm.d_n _))⟩, by dsimp only; omega, ⟨⟨rfl, rfl, rfl, rfl, rfl, trivial⟩, ⟨rfl, rfl, rfl, trivial⟩, rfl, rfl⟩⟩
    · obtain rfl : i = x.args.length := by omega
      rw [List.take_length] at hrows
      refine ret_frz [3] fun μ2 hle2 hno hrow => .inl ?_
      rw [T.d_eq]
      exact ⟨_, rfl, RepS.int (RepS.int (RepS.str (RepS.last (Rows.sl hrow (hrows.mono hle2) (Nat.le_trans (m := 10) (by omega) (by decide))))))⟩
end Go.Vx

/- Contracts: the program's substitutions: pairs, copies, mapped variables. -/
namespace Go.Vx
open Go.Proofs Classical
section
variable {μ : Mem}
theorem T.leaf_own {x : T} {v : Value} (h : x.args = []) (hv : RepV μ x.tm.d v) : OwnV x.tm.d Mem.nil v := by
  have hv_ := T.inv hv
  obtain ⟨base, cap, rfl, _⟩ := hv_
  rw [T.d_eq, h]
  rw [T.d_eq, h] at hv
  obtain ⟨cs, e, h1⟩ := hv
  obtain ⟨_, _, rfl, rfl, _, _, rfl, rfl, _, _, rfl, rfl, _, _, rfl, h7, rfl⟩ := h1
  obtain ⟨b, c, rfl, hl, _, _⟩ := h7
  exact ⟨_, e, OwnS.int (OwnS.int (OwnS.str (OwnS.last ⟨b, c, rfl, hl, by simp, .inl ⟨rfl, rfl⟩⟩)))⟩
theorem T.leaf_fresh {x : T} {v : Value} {μ' : Mem} (h : x.args = []) (hv : RepV μ x.tm.d v) : Fresh μ μ' x.tm.d v := ⟨Mem.nil, T.leaf_own h hv, (fun _ _ h => nomatch h), fun _ h => absurd rfl h⟩
/-- Two data of one's own make a row of one's own. -/
theorem two_fresh {μ1 μ2 : Mem} {a b : D} {va vb : Value} (na : a.n = 4) (nb : b.n = 4) (h1 : μ.Le μ1) (h2 : μ1.Le μ2) (ha : Fresh μ μ1 a va) (hb : Fresh μ1 μ2 b vb) : ∃ g, OwnRows 4 [a, b] [va, vb] g ∧ g.Le μ2 ∧ ∀ x, g x ≠ none → μ x = none := by
  obtain ⟨ga, a1, a2, a3⟩ := ha
  obtain ⟨gb, b1, b2, b3⟩ := hb
  have hap := fresh_apart a2 b3
  have k1 := (OwnRows.nil 4).snoc a1 na (Apart.nil_left _)
  have k2 := k1.snoc b1 nb (fun x hx => hap x (by
    rcases join_ne hx with h | h
    · exact absurd rfl h
    · exact h))
  refine ⟨_, k2, join_le (join_le (fun _ _ h => nomatch h) (a2.trans h2)) b2, fun x hx => ?_⟩
  rcases join_ne hx with h | h
  · rcases join_ne h with h | h
    · exact absurd rfl h
    · exact a3 x h
  · cases h0 : μ x with
    | none => rfl
    | some o => have := b3 x h; rw [h1 x o h0] at this; cases this
theorem pair_spec {a b : T} {va vb : Value} {μ0 g : Mem} (ha : RepV μ a.tm.d va) (hb : RepV μ b.tm.d vb) (hg : OwnRows 4 [a.tm.d, b.tm.d] [va, vb] g) (h1 : g.Le μ) (h2 : ∀ x, g x ≠ none → μ0 x = none) (h3 : μ0.Le μ) :
    Spec Tryz.prog 290 [va, vb] μ fun v μ' => Fresh μ0 μ' (T.pair a b).tm.d v := by
  have hv_ := Tm.invV ha
  obtain ⟨p, rfl⟩ := hv_
  have hv_ := Tm.invV hb
  obtain ⟨q, rfl⟩ := hv_
  refine Spec.mk Tryz.func290 (by kernel_rfl) ?_
  intro r1 r2 r3 r4
  refine ret_frz [3] fun μ' hle hno hrow => .inl ?_
  have hf := Fresh.ofRow hg h1 h2 h3 hle hno hrow (show 2 ≤ maxLen by decide)
  obtain ⟨gg, k1, k2, k3⟩ := hf
  rw [T.d_eq]
  exact ⟨gg, ⟨_, rfl, OwnS.int (OwnS.int (OwnS.str (OwnS.last k1)))⟩, k2, k3⟩
theorem copyTerm_spec : ∀ (x : T) {μ : Mem} {v : Value}, RepV μ x.tm.d v → Spec Tryz.prog 279 [v] μ fun v μ' => Fresh μ μ' x.tm.d v := by
  intro x
  induction x with
  | pair a b iha ihb =>
    intro μ v hv
    have hv_ := Tm.inv hv
    obtain ⟨base', cap', rfl, hsa⟩ := hv_
    have hv_ := T.parts hsa
    obtain ⟨ad, ad', p, p', h1, h2, hra, hrb⟩ := hv_
    refine Spec.mk Tryz.func279 (by kernel_rfl) ?_
    intro r1 r2
    refine ifnd (fun h => absurd rfl h) (fun _ => ?_)
    refine elem_intro h1 ?_
    refine elem_intro h2 ?_
    refine call_plain (iha hra) fun v1 μ1 hle1 hR1 => ?_
    refine call_plain (ihb (hrb.mono hle1)) fun v2 μ2 hle2 hR2 => ?_
    have hv_ := two_fresh (Tm.d_n _) (Tm.d_n _) hle1 hle2 hR1 hR2
    obtain ⟨g, k1, k2, k3⟩ := hv_
    have hv_ := Tm.invV hR1.rep
    obtain ⟨q1, rfl⟩ := hv_
    have hv_ := Tm.invV hR2.rep
    obtain ⟨q2, rfl⟩ := hv_
    intro r3
    refine ret_frz [2] fun μ' hle hno hrow => .inl ?_
    have hv_ := Fresh.ofRow k1 k2 k3 (hle1.trans hle2) hle hno hrow (show 2 ≤ maxLen by decide)
    obtain ⟨gg, g1, g2, g3⟩ := hv_
    rw [T.d_eq]
    exact ⟨gg, ⟨_, rfl, OwnS.int (OwnS.int (OwnS.str (OwnS.last g1)))⟩, g2, g3⟩
  | _ =>
    intro μ v hv
    have hv_ := Tm.inv hv
    obtain ⟨base', cap', rfl, hsa⟩ := hv_
    refine Spec.mk Tryz.func279 (by kernel_rfl) ?_
    intro r1 r2
    refine ifnd (fun _ => ?_) (fun h => absurd h (by simp))
    refine ret_plain ?_
    rw [T.d_eq]
    exact ⟨Mem.nil, ⟨_, rfl, OwnS.int (OwnS.int (OwnS.str (OwnS.last (Own.nilSl 4))))⟩, (fun _ _ h => nomatch h), fun _ h => absurd rfl h⟩
/-- A closure that looks variables up. -/
def Looks (k : FuncId) (caps : List Value) (μ : Mem) (f : Int → Option T) : Prop :=
  ∀ μ', μ.Le μ' → ∀ n, Spec Tryz.prog k (.int .i64 n :: caps) μ' fun v μ'' => optV (fun y tv => RepV μ'' y.tm.d tv) (f n) v
theorem mapVars_spec {k : FuncId} {caps : List Value} {f : Int → Option T} : ∀ (x : T) {μ : Mem} {v : Value}, Looks k caps μ f → RepV μ x.tm.d v →
    Spec Tryz.prog 208 [v, .func (.func k) #[] caps.toArray] μ fun v μ' => Fresh μ μ' (x.subst f).tm.d v := by
  intro x
  induction x with
  | var n =>
    intro μ v hk hv
    have hv_ := Tm.invV hv
    obtain ⟨p, rfl⟩ := hv_
    refine Spec.mk Tryz.func208 (by kernel_rfl) ?_
    intro r1 r2
    refine ifd (fun _ => ?_) (fun h => absurd rfl h)
    refine call_plain (hk μ (Mem.Le.refl μ) n) fun v' μ' hle hR => ?_
    simp only [T.subst]
    cases hs : f n with
    | some y =>
      rw [hs] at hR
      obtain ⟨tv, rfl, htv⟩ := hR
      have hv_ := Tm.invV htv
      obtain ⟨q, rfl⟩ := hv_
      intro r3
      refine if_intro (fun _ => ?_) (fun h => nomatch h)
      refine call_plain (copyTerm_spec y htv) fun v2 μ2 hle2 hR2 => ?_
      have hv_ := Tm.invV hR2.rep
      obtain ⟨q2, rfl⟩ := hv_
      exact ret_plain (hR2.mono hle (Mem.Le.refl _))
    | none =>
      rw [hs] at hR
      obtain rfl := hR
      intro r3
      refine if_intro (fun h => nomatch h) (fun _ => ?_)
      exact ret_plain (T.leaf_fresh rfl hv)
  | pair a b iha ihb =>
    intro μ v hk hv
    have hv_ := Tm.inv hv
    obtain ⟨base', cap', rfl, hsa⟩ := hv_
    have hv_ := T.parts hsa
    obtain ⟨ad, ad', p, p', h1, h2, hra, hrb⟩ := hv_
    refine Spec.mk Tryz.func208 (by kernel_rfl) ?_
    intro r1 r2
    refine ifd (fun h => absurd h (by simp)) (fun _ => ?_)
    refine ifd (fun _ => ?_) (fun h => absurd rfl h)
    refine elem_intro h1 ?_
    refine elem_intro h2 ?_
    refine call_plain (iha hk hra) fun v1 μ1 hle1 hR1 => ?_
    refine call_plain (ihb (fun μ' h => hk μ' (hle1.trans h)) (hrb.mono hle1)) fun v2 μ2 hle2 hR2 => ?_
    have hv_ := two_fresh (Tm.d_n _) (Tm.d_n _) hle1 hle2 hR1 hR2
    obtain ⟨g, k1, k2, k3⟩ := hv_
    refine call_plain (pair_spec (hR1.rep.mono hle2) hR2.rep k1 k2 k3 (hle1.trans hle2)) fun v3 μ3 hle3 hR3 => ?_
    have hv_ := Tm.invV hR3.rep
    obtain ⟨q, rfl⟩ := hv_
    exact ret_plain hR3
  | _ =>
    intro μ v hk hv
    have hv_ := Tm.invV hv
    obtain ⟨p, rfl⟩ := hv_
    refine Spec.mk Tryz.func208 (by kernel_rfl) ?_
    intro r1 r2
    refine ifd (fun h => absurd h (by simp [T.tm, Tm.kind])) (fun _ => ?_)
    refine ifd (fun h => absurd h (by simp [T.tm, Tm.kind])) (fun _ => ?_)
    exact ret_plain (T.leaf_fresh rfl hv)
end
end Go.Vx

/- Contracts: the program's search for a binding. -/
namespace Go.Vx
open Go.Proofs Classical
/-- Variables in order. -/
def Srt (bs : List B) : Prop := ∀ (i j : Nat) b c, i < j → bs[i]? = some b → bs[j]? = some c → b.var < c.var
section
variable {μ : Mem}
theorem B.elem {bs : List B} {base : Option Addr} {n : Nat} (h : Sl μ 5 base n ((bs.map B.bd).map Bd.d)) {i : Nat} {b : B} (hb : bs[i]? = some b) : ∃ ad, ∃ p : Option Addr × Nat, ElemAt μ base n 5 i ad (b.bd.cs p) ∧ RepV μ b.to.tm.d (.agg (b.to.tm.cs p).toArray) := by
  have hb' : (bs.map B.bd)[i]? = some b.bd := by simp [hb]
  have hv_ := Bd.elem h hb'
  obtain ⟨ad, p, h1, h2⟩ := hv_
  exact ⟨ad, p, h1, Bd.toV h2⟩
end
end Go.Vx

/- Contracts: the program's put and Instantiate. -/
namespace Go.Vx
open Go.Proofs Classical
theorem sub_none : ∀ {bs : List B} {n : Int}, (∀ b ∈ bs, b.var ≠ n) → sub bs n = none
  | [], _, _ => rfl
  | c :: bs, n, h => by
    rw [sub, if_neg (h c (by simp))]
    exact sub_none fun b hb => h b (by simp [hb])
theorem valsOk.srt {l : List Bd} (h : valsOk l) : Srt (l.map Bd.b) := by
  intro i j b c hij hb hc
  simp only [List.getElem?_map, Option.map_eq_some_iff] at hb hc
  obtain ⟨b, hb, rfl⟩ := hb
  obtain ⟨c, hc, rfl⟩ := hc
  show b.var < c.var
  induction j generalizing c with
  | zero => omega
  | succ j ih =>
    have hj : j < l.length := by have := (List.getElem?_eq_some_iff.1 hc).1; omega
    have hv_ := at_some hj
    obtain ⟨d, hd⟩ := hv_
    have h1 := (h.2 (j + 1) c hc).2.2 j d rfl hd
    rcases Nat.lt_or_ge i j with h2 | h2
    · have := ih h2 d hd; omega
    · obtain rfl : i = j := by omega
      rw [hb] at hd; cases hd; exact h1
section
variable {μ : Mem}
/-- A substituted term, if it is not too big. -/
noncomputable def fit (x : T) : Option T := if x.size ≤ 5000 then some x else none
end
end Go.Vx

/- Contracts: terms compared. -/
namespace Go.Vx
open Go.Proofs Classical
def sgn (b : Bool) : Int := if b then -1 else 1
/-- The comparison of two terms' own fields, then the rest. -/
noncomputable def hdCmp (x y : Tm) (rest : Int) : Int :=
  if x.kind ≠ y.kind then sgn (decide (x.kind < y.kind)) else if x.num ≠ y.num then sgn (decide (x.num < y.num)) else if x.name ≠ y.name then sgn (Op.bytesLess x.name.data.toList y.name.data.toList) else rest
noncomputable def T.cmp : T → T → Int
  | .pair a b, .pair c d => if a.cmp c = 0 then b.cmp d else a.cmp c
  | .pair a b, .nil => hdCmp (T.pair a b).tm T.nil.tm 0
  | .pair a b, .var n => hdCmp (T.pair a b).tm (T.var n).tm 0
  | .pair a b, .sym n => hdCmp (T.pair a b).tm (T.sym n).tm 0
  | .pair a b, .num n => hdCmp (T.pair a b).tm (T.num n).tm 0
  | .nil, y => hdCmp T.nil.tm y.tm 0
  | .var n, y => hdCmp (T.var n).tm y.tm 0
  | .sym n, y => hdCmp (T.sym n).tm y.tm 0
  | .num n, y => hdCmp (T.num n).tm y.tm 0
theorem sgn_ne (b : Bool) : sgn b ≠ 0 := by cases b <;> simp [sgn]
theorem hdCmp_zero {x y : Tm} {r : Int} : hdCmp x y r = 0 ↔ x.kind = y.kind ∧ x.num = y.num ∧ x.name = y.name ∧ r = 0 := by
  unfold hdCmp
  split
  · rename_i h; exact ⟨fun k => absurd k (sgn_ne _), fun k => absurd k.1 h⟩
  · split
    · rename_i h; exact ⟨fun k => absurd k (sgn_ne _), fun k => absurd k.2.1 h⟩
    · split
      · rename_i h; exact ⟨fun k => absurd k (sgn_ne _), fun k => absurd k.2.2.1 h⟩
      · rename_i h1 h2 h3
        exact ⟨fun k => ⟨Classical.not_not.1 h1, Classical.not_not.1 h2, Classical.not_not.1 h3, k⟩, fun k => k.2.2.2⟩
theorem T.cmp_zero : ∀ x y : T, x.cmp y = 0 ↔ x = y := by
  intro x
  induction x with
  | pair a b iha ihb =>
    intro y
    cases y with
    | pair c d =>
      rw [T.cmp, T.pair.injEq, ← iha, ← ihb]
      split
      · rename_i h; exact ⟨fun k => ⟨h, k⟩, fun k => k.2⟩
      · rename_i h; exact ⟨fun k => absurd k h, fun k => absurd k.1 h⟩
    | _ => rw [T.cmp, hdCmp_zero]; simp [T.tm, Tm.kind]
  | _ =>
    intro y
    rw [T.cmp, hdCmp_zero]
    cases y <;> simp [T.tm, Tm.kind, Tm.num, Tm.name]
theorem hd1 {x y : Tm} {r : Int} (h : ¬ x.kind = y.kind) : hdCmp x y r = sgn (decide (x.kind < y.kind)) := by rw [hdCmp, if_pos h]
theorem hd2 {x y : Tm} {r : Int} (h1 : x.kind = y.kind) (h : ¬ x.num = y.num) : hdCmp x y r = sgn (decide (x.num < y.num)) := by rw [hdCmp, if_neg (fun k => k h1), if_pos h]
theorem hd3 {x y : Tm} {r : Int} (h1 : x.kind = y.kind) (h2 : x.num = y.num) (h : ¬ x.name = y.name) : hdCmp x y r = sgn (Op.bytesLess x.name.data.toList y.name.data.toList) := by rw [hdCmp, if_neg (fun k => k h1), if_neg (fun k => k h2), if_pos h]
theorem hd4 {x y : Tm} {r : Int} (h1 : x.kind = y.kind) (h2 : x.num = y.num) (h : x.name = y.name) : hdCmp x y r = r := by rw [hdCmp, if_neg (fun k => k h1), if_neg (fun k => k h2), if_neg (fun k => k h)]
section
variable {μ : Mem}
theorem orderInts_spec (a b : Int) (h : ¬ a = b) : Gives Tryz.prog 319 [.int .i64 a, .int .i64 b] μ (.int .i64 (sgn (decide (a < b)))) := by
  refine Spec.mk Tryz.func319 (by kernel_rfl) ?_
  refine ifd (fun h1 => ret_gives ?_ rfl) (fun h1 => ?_)
  · rw [decide_eq_true h1]; rfl
  refine ifd (fun h2 => ret_gives ?_ rfl) (fun h2 => by omega)
  rw [decide_eq_false h1]; rfl
theorem l02Sign_spec (b : Bool) : Gives Tryz.prog 246 [.bool b] μ (.int .i64 (sgn b)) := by
  refine Spec.mk Tryz.func246 (by kernel_rfl) ?_
  refine if_intro (fun h1 => ret_gives ?_ rfl) (fun h1 => ret_gives ?_ rfl)
  · rw [h1]; rfl
  · rw [h1]; rfl
noncomputable def T.rest : T → T → Int
  | .pair a b, .pair c d => if a.cmp c = 0 then b.cmp d else a.cmp c
  | _, _ => 0
theorem T.cmp_eq (x y : T) : x.cmp y = hdCmp x.tm y.tm (x.rest y) := by
  cases x with
  | pair a b =>
    cases y with
    | pair c d => rw [T.cmp, hd4 (x := (T.pair a b).tm) (y := (T.pair c d).tm) rfl rfl rfl]; rfl
    | _ => rw [T.cmp]; rfl
  | _ => rw [T.cmp]; rfl
theorem T.rest_at {x y : T} {i : Nat} {p q : T} (h : ∀ j p q, j < i → x.args[j]? = some p → y.args[j]? = some q → p.cmp q = 0) (hp : x.args[i]? = some p) (hq : y.args[i]? = some q) (hne : p.cmp q ≠ 0) : x.rest y = p.cmp q := by
  cases x with
  | pair a b =>
    cases y with
    | pair c d =>
      simp only [T.rest]
      match i, hp, hq with
      | 0, hp, hq => cases hp; cases hq; rw [if_neg hne]
      | 1, hp, hq =>
        cases hp; cases hq
        have := h 0 a c (by omega) rfl rfl
        rw [if_pos this]
      | i + 2, hp, hq => simp [T.args] at hp
    | _ => simp [T.args] at hq
  | _ => simp [T.args] at hp
theorem T.rest_zero {x y : T} (h : ∀ (j : Nat) p q, j < x.args.length → x.args[j]? = some p → y.args[j]? = some q → p.cmp q = 0) : x.rest y = 0 := by
  cases x with
  | pair a b =>
    cases y with
    | pair c d =>
      have h0 := h 0 a c (by simp [T.args]) rfl rfl
      have h1 := h 1 b d (by simp [T.args]) rfl rfl
      simp only [T.rest]
      rw [if_pos h0, h1]
    | _ => rfl
  | _ => rfl
theorem T.args_kind {x y : T} (h : x.tm.kind = y.tm.kind) : x.args.length = y.args.length := by
  cases x <;> cases y <;> simp_all [T.tm, Tm.kind, T.args]
theorem T.kind4 {x : T} (h : x.tm.kind = 4) : ∃ a b, x = .pair a b := by
  cases x <;> simp_all [T.tm, Tm.kind]
theorem T.arg {μ : Mem} {x : T} {base : Option Addr} (h : Sl μ 4 base x.args.length ((x.args.map T.tm).map Tm.d)) {i : Nat} {y : T} (hy : x.args[i]? = some y) : ∃ ad, ∃ p : Option Addr × Nat, ElemAt μ base x.args.length 4 i ad (y.tm.cs p) ∧ RepV μ y.tm.d (.agg (y.tm.cs p).toArray) :=
  Tm.elem h (by simp [hy])
theorem orderTerms_spec : ∀ (x y : T) {v w : Value}, RepV μ x.tm.d v → RepV μ y.tm.d w → Gives Tryz.prog 280 [v, w] μ (.int .i64 (x.cmp y)) :=
  T.ind fun x ih y v w hv hw => by
    have hv_ := T.inv hv
    obtain ⟨b1, c1, rfl, hs1⟩ := hv_
    have hv_ := T.inv hw
    obtain ⟨b2, c2, rfl, hs2⟩ := hv_
    rw [T.cmp_eq]
    refine Spec.mk Tryz.func280 (by kernel_rfl) ?_
    intro r1 r2
    refine ifnd (fun h => ?_) (fun h1 => ?_)
    · exact call_gives (orderInts_spec _ _ h) (ret_gives (by rw [hd1 h]) rfl)
    refine ifnd (fun h => ?_) (fun h2 => ?_)
    · exact call_gives (orderInts_spec _ _ h) (ret_gives (by rw [hd2 h1 h]) rfl)
    refine ifnd (fun h => ?_) (fun h3 => ?_)
    · refine if_intro (fun h4 => ret_gives ?_ rfl) (fun h4 => ret_gives ?_ rfl)
      · rw [hd3 h1 h2 h, h4]; rfl
      · rw [hd3 h1 h2 h, h4]; rfl
    rw [hd4 h1 h2 h3]
    refine ifnd (fun h => ?_) (fun h4 => ?_)
    · refine ret_gives ?_ rfl
      have : x.rest y = 0 := by cases x <;> first | rfl | exact absurd rfl h
      rw [this]
    have hv_ := T.kind4 h4
    obtain ⟨a, b, rfl⟩ := hv_
    have hv_ := T.kind4 (h1 ▸ h4)
    obtain ⟨c, d, rfl⟩ := hv_
    have hv_ := T.arg hs1 (i := 0) rfl
    obtain ⟨ad1, p1, e1, g1⟩ := hv_
    have hv_ := T.arg hs2 (i := 0) rfl
    obtain ⟨ad2, p2, e2, g2⟩ := hv_
    have hv_ := T.arg hs1 (i := 1) rfl
    obtain ⟨ad3, p3, e3, g3⟩ := hv_
    have hv_ := T.arg hs2 (i := 1) rfl
    obtain ⟨ad4, p4, e4, g4⟩ := hv_
    refine elem_intro e1 (elem_intro e2 (call_gives (ih a (by simp [T.args]) c g1 g2) ?_))
    simp only [T.rest]
    refine ifnd (fun h => ?_) (fun h5 => ?_)
    · rw [if_neg h]; exact ret_gives rfl rfl
    · rw [if_pos h5]
      exact elem_intro e3 (elem_intro e4 (call_gives (ih b (by simp [T.args]) d g3 g4) (ret_gives rfl rfl)))
theorem l02Cmp_spec : ∀ (x y : T) {v w : Value}, RepV μ x.tm.d v → RepV μ y.tm.d w → Gives Tryz.prog 278 [v, w] μ (.int .i64 (x.cmp y)) :=
  T.ind fun x ih y v w hv hw => by
    have hv_ := T.inv hv
    obtain ⟨b1, c1, rfl, hs1⟩ := hv_
    have hv_ := T.inv hw
    obtain ⟨b2, c2, rfl, hs2⟩ := hv_
    have hn := T.args_le x
    rw [T.cmp_eq]
    refine Spec.mk Tryz.func278 (by kernel_rfl) ?_
    intro r1 r2
    refine ifnd (fun h => ?_) (fun h1 => ?_)
    · exact call_gives (l02Sign_spec _) (ret_gives (by rw [hd1 h]) rfl)
    refine ifnd (fun h => ?_) (fun h2 => ?_)
    · exact call_gives (l02Sign_spec _) (ret_gives (by rw [hd2 h1 h]) rfl)
    refine ifnd (fun h => ?_) (fun h3 => ?_)
    · exact call_gives (l02Sign_spec _) (ret_gives (by rw [hd3 h1 h2 h]) rfl)
    rw [hd4 h1 h2 h3]
    have hlen := T.args_kind h1
    refine loop_intro (fun i : Nat => i ≤ x.args.length ∧ ∀ j p q, j < i → x.args[j]? = some p → y.args[j]? = some q → p.cmp q = 0) (fun i => ⟨[(2, .loc 0 r1 0), (3, .loc 1 r2 0), (5, .val (.int .i64 i))], [(0, some (.cells r1 [.val (.int .i64 x.tm.kind), .val (.int .i64 x.tm.num), .val (.string x.tm.name), .val (.slice b1 x.args.length c1)] 44)), (1, some (.cells r2 [.val (.int .i64 y.tm.kind), .val (.int .i64 y.tm.num), .val (.string y.tm.name), .val (.slice b2 y.args.length c2)] 44))], 2, μ, Mem.nil⟩) (fun i => x.args.length - i)
      0 ⟨by omega, fun j p q hj => by omega⟩ (fun i => ⟨rfl, rfl⟩) ⟨⟨rfl, rfl, rfl, trivial⟩, ⟨rfl, rfl, trivial⟩, rfl, rfl⟩ ?_
    rintro i ⟨hi, hz⟩
    refine ifd (fun h => ?_) (fun h => ?_)
    · refine ifd (fun h' => ?_) (fun h' => by omega)
      have hv_ := at_some (l := x.args) (i := i) (by omega)
      obtain ⟨p, hp⟩ := hv_
      have hv_ := at_some (l := y.args) (i := i) (by omega)
      obtain ⟨q, hq⟩ := hv_
      have hv_ := T.arg hs1 hp
      obtain ⟨ad1, p1, e1, g1⟩ := hv_
      have hv_ := T.arg hs2 hq
      obtain ⟨ad2, p2, e2, g2⟩ := hv_
      refine elem_intro e1 (elem_intro e2 (call_gives (ih p (mem_at hp) q g1 g2) ?_))
      refine ifnd (fun h5 => ?_) (fun h5 => ?_)
      · rw [T.rest_at hz hp hq h5]; exact ret_gives rfl rfl
      · refine num64 (by omega) (by omega) ⟨i + 1, ⟨by omega, fun j p' q' hj hp' hq' => ?_⟩, by omega, ⟨⟨rfl, rfl, rfl, trivial⟩, ⟨rfl, rfl, trivial⟩, rfl, rfl⟩⟩
        rcases Nat.lt_or_ge j i with h6 | h6
        · exact hz j p' q' h6 hp' hq'
        · obtain rfl : j = i := by omega
          rw [hp] at hp'; rw [hq] at hq'; cases hp'; cases hq'; exact h5
    · obtain rfl : i = x.args.length := by omega
      rw [T.rest_zero hz]
      exact ret_gives rfl rfl
theorem equalTerms_spec (x y : T) {v w : Value} (hv : RepV μ x.tm.d v) (hw : RepV μ y.tm.d w) : Gives Tryz.prog 195 [v, w] μ (.bool (decide (x = y))) := by
  have hv_ := Tm.invV hv
  obtain ⟨p, rfl⟩ := hv_
  have hv_ := Tm.invV hw
  obtain ⟨q, rfl⟩ := hv_
  refine Spec.mk Tryz.func195 (by kernel_rfl) ?_
  intro r1 r2
  exact call_gives (orderTerms_spec x y hv hw) (ret_gives (isI (T.cmp_zero x y)) rfl)
/-- A variable as a term. -/
def varV (n : Int) : Value := .agg #[.int .i64 1, .int .i64 n, .string ⟨#[]⟩, .slice none 0 0]
theorem varV_own (n : Int) : OwnV (T.var n).tm.d Mem.nil (varV n) := by
  rw [T.d_eq]
  exact ⟨_, rfl, OwnS.int (OwnS.int (OwnS.str (OwnS.last (Own.nilSl 4))))⟩
theorem varV_rep (n : Int) : RepV μ (T.var n).tm.d (varV n) := (varV_own n).rep (fun _ _ h => nomatch h)
theorem variable_spec (n : Int) : Gives Tryz.prog 81 [.int .i64 n] μ (varV n) := by
  refine Spec.mk Tryz.func81 (by kernel_rfl) ?_
  intro r1
  exact ret_gives rfl rfl
theorem l02Var_spec (n : Int) : Gives Tryz.prog 114 [.int .i64 n] μ (varV n) := by
  refine Spec.mk Tryz.func114 (by kernel_rfl) ?_
  intro r1
  exact ret_gives rfl rfl
end
end Go.Vx

/- Plain: parts of a row changed about; sorted parts merged. -/
namespace Go.Vx
open Go.Sort
section
variable {α : Type} {lt : α → α → Bool}
end
section
variable {α : Type} [Inhabited α] {lt : α → α → Bool} {d c R : Array α}
/-- [a, a + n) and [b, b + n) changed about. -/
structure Sw (a b n : Nat) (d d' : Array α) : Prop where
  size : d'.size = d.size
  fst : ∀ t, t < n → d'[a + t]! = d[b + t]!
  snd : ∀ t, t < n → d'[b + t]! = d[a + t]!
  out : ∀ k, k < a ∨ a + n ≤ k → k < b ∨ b + n ≤ k → d'[k]! = d[k]!
theorem Sw.nil (a b : Nat) (d : Array α) : Sw a b 0 d d := ⟨rfl, fun t h => by omega, fun t h => by omega, fun _ _ _ => rfl⟩
theorem Sw.step {a b n : Nat} (h : Sw a b n d c) (h1 : a + n < b) (h2 : b + n < d.size) : Sw a b (n + 1) d (swp c (a + n) (b + n)) := by
  have g : ∀ k, (swp c (a + n) (b + n))[k]! = if k = b + n then c[a + n]! else if k = a + n then c[b + n]! else c[k]! := fun k => swp_get c (by rw [h.size]; omega) (by rw [h.size]; omega) k
  refine ⟨by rw [Go.Sort.swp_size, h.size], fun t ht => ?_, fun t ht => ?_, fun k hk1 hk2 => ?_⟩
  · rw [g, if_neg (by omega)]
    by_cases e : t = n
    · subst e; rw [if_pos rfl, h.out _ (by omega) (by omega)]
    · rw [if_neg (by omega), h.fst t (by omega)]
  · rw [g]
    by_cases e : t = n
    · subst e; rw [if_pos rfl, h.out _ (by omega) (by omega)]
    · rw [if_neg (by omega), if_neg (by omega), h.snd t (by omega)]
  · rw [g, if_neg (by omega), if_neg (by omega), h.out k (by omega) (by omega)]
/-- [a, m) and [m, b) changed about. -/
structure Rot (a m b : Nat) (d d' : Array α) : Prop where
  size : d'.size = d.size
  out : ∀ k, k < a ∨ b ≤ k → d'[k]! = d[k]!
  lo : ∀ t, t < b - m → d'[a + t]! = d[m + t]!
  hi : ∀ t, t < m - a → d'[a + (b - m) + t]! = d[a + t]!
theorem Rot.same {m i : Nat} (hi : i ≤ m) (s : Sw (m - i) m i d R) : Rot (m - i) m (m + i) d R where
  size := s.size
  out k hk := s.out k (by omega) (by omega)
  lo t ht := s.fst t (by omega)
  hi t ht := by rw [show m - i + (m + i - m) + t = m + t by omega]; exact s.snd t (by omega)
section
variable {s m e : Nat}
theorem SortedIn.sub {a b a' b' : Nat} (h : SortedIn lt a b d) (h1 : a ≤ a') (h2 : b' ≤ b) : SortedIn lt a' b' d := fun i j hi hij hj => h i j (by omega) hij (by omega)
/-- What a change about of [s, m) and [m, e) leaves: left and right of q = s + (e - m). -/
structure Cut (lt : α → α → Bool) (a s m e b : Nat) (d : Array α) : Prop where
  sa : a ≤ s
  sm : s ≤ m
  me : m ≤ e
  eb : e ≤ b
  lo : ∀ x y, a ≤ x → x < s → e ≤ y → y < b → lt d[y]! d[x]! = false
  hi : ∀ x y, s ≤ x → x < m → m ≤ y → y < e → lt d[x]! d[y]! = false
end
end
end Go.Vx

/- Plain: terms and substitutions in order. -/
namespace Go.Vx
open Go.Proofs Classical
/-- A comparison in three ways that makes a total order. -/
structure Ord3 {α : Type} (c : α → α → Int) : Prop where
  zero : ∀ x y, c x y = 0 ↔ x = y
  anti : ∀ x y, c x y < 0 ↔ 0 < c y x
  trans : ∀ x y z, c x y < 0 → c y z < 0 → c x z < 0
def lexI (p q : Int) : Int := if p = 0 then q else p
theorem lexI_zero {p q : Int} : lexI p q = 0 ↔ p = 0 ∧ q = 0 := by unfold lexI; split <;> omega
theorem lexI_anti {p q p' q' : Int} (h1 : p < 0 ↔ 0 < p') (h2 : p' < 0 ↔ 0 < p) (h3 : p = 0 → (q < 0 ↔ 0 < q')) : lexI p q < 0 ↔ 0 < lexI p' q' := by
  unfold lexI
  split
  · rename_i h
    rw [if_pos (by omega)]; exact h3 h
  · rw [if_neg (by omega)]; exact h1
theorem lexI_trans {p1 q1 p2 q2 p3 q3 : Int} (t : p1 < 0 → p2 < 0 → p3 < 0) (e1 : p1 = 0 → p3 = p2) (e2 : p2 = 0 → p3 = p1) (r : p1 = 0 → p2 = 0 → q1 < 0 → q2 < 0 → q3 < 0) : lexI p1 q1 < 0 → lexI p2 q2 < 0 → lexI p3 q3 < 0 := by
  unfold lexI
  intro h1 h2
  by_cases k1 : p1 = 0
  · rw [if_pos k1] at h1
    have := e1 k1
    by_cases k2 : p2 = 0
    · rw [if_pos k2] at h2
      rw [if_pos (by omega)]; exact r k1 k2 h1 h2
    · rw [if_neg k2] at h2
      rw [if_neg (by omega)]; omega
  · rw [if_neg k1] at h1
    by_cases k2 : p2 = 0
    · have := e2 k2
      rw [if_neg (by omega)]; omega
    · rw [if_neg k2] at h2
      have := t h1 h2
      rw [if_neg (by omega)]; exact this
/-- The first fields, then the rest. -/
theorem Ord3.lex_trans {α : Type} {c : α → α → Int} (h : Ord3 c) {x y z : α} {q1 q2 q3 : Int} (r : x = y → y = z → q1 < 0 → q2 < 0 → q3 < 0) : lexI (c x y) q1 < 0 → lexI (c y z) q2 < 0 → lexI (c x z) q3 < 0 :=
  lexI_trans (h.trans x y z) (fun e => by rw [(h.zero _ _).1 e]) (fun e => by rw [(h.zero _ _).1 e]) fun e1 e2 => r ((h.zero _ _).1 e1) ((h.zero _ _).1 e2)
theorem Ord3.lex_anti {α : Type} {c : α → α → Int} (h : Ord3 c) {x y : α} {q q' : Int} (r : x = y → (q < 0 ↔ 0 < q')) : lexI (c x y) q < 0 ↔ 0 < lexI (c y x) q' :=
  lexI_anti (h.anti x y) (h.anti y x) fun e => r ((h.zero _ _).1 e)
def cInt (a b : Int) : Int := if a = b then 0 else sgn (decide (a < b))
theorem cInt_ord : Ord3 cInt where
  zero x y := by
    unfold cInt sgn
    by_cases h : x = y
    · simp [h]
    · by_cases g : x < y <;> simp [h, g]
  anti x y := by
    unfold cInt sgn
    by_cases h : x = y
    · simp [h]
    · rw [if_neg h, if_neg (Ne.symm h)]
      by_cases g : x < y
      · have g2 : ¬ y < x := by omega
        simp [g, g2]
      · have g2 : y < x := by omega
        simp [g, g2]
  trans x y z := by
    unfold cInt sgn
    by_cases h : x = y <;> by_cases h2 : y = z <;> by_cases h3 : x = z <;> by_cases g : x < y <;> by_cases g2 : y < z <;> by_cases g3 : x < z <;> simp [h, h2, h3, g, g2, g3] <;> omega
theorem bl_irrefl : ∀ l : List UInt8, Op.bytesLess l l = false
  | [] => rfl
  | a :: l => by rw [Op.bytesLess]; simp [bl_irrefl l]
theorem bl_trans : ∀ x y z : List UInt8, Op.bytesLess x y = true → Op.bytesLess y z = true → Op.bytesLess x z = true
  | x, y, [], h1, h2 => by simp [Op.bytesLess] at h2
  | x, [], c :: z, h1, h2 => by cases x <;> simp [Op.bytesLess] at h1
  | [], b :: y, c :: z, h1, h2 => rfl
  | a :: x, b :: y, c :: z, h1, h2 => by
    simp only [Op.bytesLess, Bool.or_eq_true, decide_eq_true_eq, Bool.and_eq_true, beq_iff_eq] at h1 h2 ⊢
    rcases h1 with h1 | ⟨rfl, h1⟩
    · rcases h2 with h2 | ⟨rfl, h2⟩
      · exact .inl (UInt8.lt_trans h1 h2)
      · exact .inl h1
    · rcases h2 with h2 | ⟨rfl, h2⟩
      · exact .inl h2
      · exact .inr ⟨rfl, bl_trans x y z h1 h2⟩
theorem bl_other {x y : List UInt8} (h : x ≠ y) : Op.bytesLess y x = !Op.bytesLess x y := by
  rw [← bytesLess_total x y]
  have : (x == y) = false := by simpa using h
  rw [this, Bool.or_false]
theorem bytes_ne {x y : ByteArray} (h : ¬ x = y) : x.data.toList ≠ y.data.toList := fun k => h (by
  cases x; cases y
  simp only [ByteArray.mk.injEq]
  exact Array.ext' k)
noncomputable def cName (a b : ByteArray) : Int := if a = b then 0 else sgn (Op.bytesLess a.data.toList b.data.toList)
theorem cName_ord : Ord3 cName where
  zero x y := by
    unfold cName
    by_cases h : x = y
    · simp [h]
    · rw [if_neg h]; exact ⟨fun k => absurd k (sgn_ne _), fun k => absurd k h⟩
  anti x y := by
    unfold cName
    by_cases h : x = y
    · simp [h]
    · rw [if_neg h, if_neg (Ne.symm h), bl_other (bytes_ne h)]
      cases Op.bytesLess x.data.toList y.data.toList <;> simp [sgn]
  trans x y z := by
    unfold cName
    intro h1 h2
    split at h1
    · omega
    split at h2
    · omega
    have k1 : Op.bytesLess x.data.toList y.data.toList = true := by
      cases e : Op.bytesLess x.data.toList y.data.toList with
      | true => rfl
      | false => rw [e] at h1; simp [sgn] at h1
    have k2 : Op.bytesLess y.data.toList z.data.toList = true := by
      cases e : Op.bytesLess y.data.toList z.data.toList with
      | true => rfl
      | false => rw [e] at h2; simp [sgn] at h2
    have k3 := bl_trans _ _ _ k1 k2
    have k4 : ¬ x = z := fun e => by
      rw [e, bl_irrefl] at k3; exact absurd k3 (by decide)
    rw [if_neg k4, k3]
    decide
theorem hd_lex (x y : Tm) (r : Int) : hdCmp x y r = lexI (cInt x.kind y.kind) (lexI (cInt x.num y.num) (lexI (cName x.name y.name) r)) := by
  unfold hdCmp lexI cInt cName
  by_cases h1 : x.kind = y.kind <;> by_cases h2 : x.num = y.num <;> by_cases h3 : x.name = y.name <;> simp [h1, h2, h3, sgn_ne]
theorem T.cmp_anti : ∀ x y : T, x.cmp y < 0 ↔ 0 < y.cmp x := by
  intro x
  induction x with
  | pair a b iha ihb =>
    intro y
    rw [T.cmp_eq, T.cmp_eq y, hd_lex, hd_lex]
    refine cInt_ord.lex_anti fun _ => cInt_ord.lex_anti fun _ => cName_ord.lex_anti fun _ => ?_
    cases y with
    | pair c d =>
      show lexI (a.cmp c) (b.cmp d) < 0 ↔ 0 < lexI (c.cmp a) (d.cmp b)
      refine lexI_anti (iha c) ?_ fun _ => ihb d
      have h1 := iha c; have h2 := T.cmp_zero a c; have h3 := T.cmp_zero c a
      by_cases e : a = c
      · have := h2.2 e; have := h3.2 e.symm; omega
      · have : a.cmp c ≠ 0 := fun k => e (h2.1 k)
        have : c.cmp a ≠ 0 := fun k => e (h3.1 k).symm
        omega
    | _ => exact Iff.rfl
  | _ =>
    intro y
    rw [T.cmp_eq, T.cmp_eq y, hd_lex, hd_lex]
    refine cInt_ord.lex_anti fun _ => cInt_ord.lex_anti fun _ => cName_ord.lex_anti fun _ => ?_
    cases y <;> exact Iff.rfl
theorem T.cmp_trans : ∀ x y z : T, x.cmp y < 0 → y.cmp z < 0 → x.cmp z < 0 := by
  intro x
  induction x with
  | pair a b iha ihb =>
    intro y z
    rw [T.cmp_eq, T.cmp_eq y, T.cmp_eq _ z, hd_lex, hd_lex, hd_lex]
    refine cInt_ord.lex_trans fun _ _ => cInt_ord.lex_trans fun _ _ => cName_ord.lex_trans fun _ _ => ?_
    cases y with
    | pair c d =>
      cases z with
      | pair e f =>
        show lexI (a.cmp c) (b.cmp d) < 0 → lexI (c.cmp e) (d.cmp f) < 0 → lexI (a.cmp e) (b.cmp f) < 0
        exact lexI_trans (iha c e) (fun k => by rw [(T.cmp_zero _ _).1 k]) (fun k => by rw [(T.cmp_zero _ _).1 k]) fun _ _ => ihb d f
      | _ => exact fun _ h => absurd h (Int.lt_irrefl 0)
    | _ => exact fun h => absurd h (Int.lt_irrefl 0)
  | _ =>
    intro y z
    rw [T.cmp_eq, T.cmp_eq y, T.cmp_eq _ z, hd_lex, hd_lex, hd_lex]
    refine cInt_ord.lex_trans fun _ _ => cInt_ord.lex_trans fun _ _ => cName_ord.lex_trans fun _ _ => ?_
    exact fun h => absurd h (Int.lt_irrefl 0)
theorem T.cmp_ord : Ord3 T.cmp := ⟨T.cmp_zero, T.cmp_anti, T.cmp_trans⟩
/-- Lists compared, element by element; the shorter one first. -/
def cmpList {α : Type} (c : α → α → Int) : List α → List α → Int
  | [], [] => 0
  | [], _ :: _ => -1
  | _ :: _, [] => 1
  | a :: l, b :: m => lexI (c a b) (cmpList c l m)
theorem cmpList_ord {α : Type} {c : α → α → Int} (h : Ord3 c) : Ord3 (cmpList c) where
  zero := by
    intro x
    induction x with
    | nil => intro y; cases y <;> simp [cmpList]
    | cons a l ih =>
      intro y
      cases y with
      | nil => simp [cmpList]
      | cons b m => rw [cmpList, lexI_zero, h.zero, ih, List.cons.injEq]
  anti := by
    intro x
    induction x with
    | nil => intro y; cases y <;> simp [cmpList]
    | cons a l ih =>
      intro y
      cases y with
      | nil => simp [cmpList]
      | cons b m => rw [cmpList, cmpList]; exact h.lex_anti fun _ => ih m
  trans := by
    intro x
    induction x with
    | nil => intro y z; cases y <;> cases z <;> simp [cmpList]
    | cons a l ih =>
      intro y z
      cases y with
      | nil => simp [cmpList]
      | cons b m =>
        cases z with
        | nil => simp [cmpList]
        | cons e n => rw [cmpList, cmpList, cmpList]; exact h.lex_trans fun _ _ => ih m n
noncomputable def B.cmp (x y : B) : Int := lexI (cInt x.var y.var) (x.to.cmp y.to)
theorem B.cmp_ord : Ord3 B.cmp where
  zero x y := by
    rw [B.cmp, lexI_zero, cInt_ord.zero, T.cmp_zero]
    cases x; cases y; simp
  anti x y := cInt_ord.lex_anti fun _ => T.cmp_anti _ _
  trans x y z := cInt_ord.lex_trans fun _ _ => T.cmp_trans _ _ _
end Go.Vx

/- Owned rows, maps of numbers, results that grow. -/
namespace Go.Vx
open Go.Proofs Classical
section
variable {P : Program} {f : FuncId} {args : List Value} {μ h H : Mem}
theorem Mem.set_at (m : Mem) (r : Nat) (o : Obj) : (m.set r o) r = some o := by rw [Mem.set_get, if_pos rfl]
theorem Mem.set_ne {m : Mem} {b r : Nat} {o : Obj} (h : b ≠ r) : (m.set r o) b = m b := by rw [Mem.set_get, if_neg h]
theorem ne_of_obj {a b : Nat} {x y : Obj} (h1 : h a = some x) (h2 : h b = some y) (hne : x ≠ y) : a ≠ b := fun e => by
  subst e; rw [h1] at h2; cases h2; exact hne rfl
theorem ne_of_none {a b : Nat} {x : Obj} (h1 : h a = some x) (h2 : h b = none) : a ≠ b := fun e => by
  subst e; rw [h1] at h2; cases h2
theorem Apart.set {r : Nat} {o : Obj} (k : Apart μ h) (hr : μ r = none) : Apart μ (h.set r o) := fun b hb => by
  by_cases e : b = r
  · subst e; exact absurd hr hb
  · rw [Mem.set_ne e]; exact k b hb
/-! ### Rows -/
theorem RowO.set_ne {r cap b : Nat} {ty : TypeId} {es : Nat} {xs : List Value} {o : Obj} (k : RowO h r cap ty es xs) (hb : r ≠ b) : RowO (h.set b o) r cap ty es xs := by
  obtain ⟨cs, h1, h2⟩ := k
  exact ⟨cs, by rw [Mem.set_ne hb]; exact h1, h2⟩
theorem RowO.rowAt {r cap : Nat} {ty : TypeId} {es : Nat} {xs : List Value} (k : RowO h r cap ty es xs) (hl : h.Le μ) : RowAt μ (some r) cap es xs := by
  obtain ⟨cs, h1, h2, h3, h4, h5, h6⟩ := k
  exact ⟨h2, h4, cs.toArray, ty, hl _ _ h1, by simpa using h5, by simpa using h6⟩
theorem RowO.len {r cap : Nat} {ty : TypeId} {es : Nat} {xs : List Value} (k : RowO h r cap ty es xs) : xs.length ≤ maxLen := by
  obtain ⟨cs, h1, h2, h3, _⟩ := k
  exact Nat.le_trans h2 h3
theorem RowO.rep {r cap : Nat} {ty : TypeId} {es : Nat} {xs : List Value} {ds : List D} (k : RowO h r cap ty es xs) (hl : h.Le μ) (hr : Rows μ es ds xs) : RepV μ (.sl es ds) (.slice (some ⟨r, 0, none⟩) xs.length cap) :=
  Rows.sl (k.rowAt hl) hr k.len
theorem RowO.mk_nil (h : Mem) (r : Nat) (ty : TypeId) (es : Nat) : RowO (h.set r (.cells #[] ty (0, 0))) r 0 ty es [] :=
  ⟨[], Mem.set_at _ _ _, Nat.le_refl _, Nat.zero_le _, by simp, by simp, by simp⟩
theorem RowO.obj {r cap : Nat} {ty : TypeId} {es : Nat} {xs : List Value} (k : RowO h r cap ty es xs) : ∃ cs : List Value, h r = some (.cells cs.toArray ty (0, 0)) := by
  obtain ⟨cs, h1, _⟩ := k
  exact ⟨cs, h1⟩
theorem RowO.ints {r cap : Nat} {ty : TypeId} {l : List Int} (k : RowO h r cap ty 1 (ints l)) (hl : h.Le μ) : Sl μ 1 (some ⟨r, 0, none⟩) l.length (l.map D.i) := by
  have hv_ := Rep.sl (k.rep hl (Ints.rows l))
  obtain ⟨b, c, e, hs⟩ := hv_
  have hv_ := Value.slice.inj e
  obtain ⟨rfl, _, _⟩ := hv_
  rw [List.length_map] at hs
  exact hs
/-! ### Maps of numbers -/
def IntKey (v : Value) : Prop := ∃ n, v = .int .i64 n
theorem MapOk.weaken {ok ok' : Value → Prop} {l : List (Value × Value)} (k : MapOk ok l) (hk : ∀ v, ok v → ok' v) : MapOk ok' l := ⟨fun p hp => hk _ (k.keys p hp), k.nodup⟩
theorem MapOk.int {l : List (Value × Value)} (k : MapOk IntKey l) {n : Int} (v : Value) : MapOk IntKey (mset l (.int .i64 n) v) := k.set ⟨n, rfl⟩ v
theorem mget_int (l : List (Value × Value)) (n m : Int) (v : Value) : mget (mset l (.int .i64 n) v) (.int .i64 m) = if m = n then some v else mget l (.int .i64 m) := by
  rw [mget_mset]
  by_cases e : m = n
  · subst e; rw [if_pos rfl, if_pos rfl]
  · rw [if_neg e, if_neg (by simp [e])]
/-! ### Results that grow -/
/-- Elements whose memory is new. -/
def Grown (es : Nat) (μ μ' : Mem) (ds : List D) (ys : List Value) : Prop := ∃ g, OwnRows es ds ys g ∧ g.Le μ' ∧ ∀ b, g b ≠ none → μ b = none
theorem Grown.nil (es : Nat) (μ μ' : Mem) : Grown es μ μ' [] [] := ⟨Mem.nil, OwnRows.nil es, (fun _ _ h => nomatch h), fun _ h => absurd rfl h⟩
theorem Grown.snoc {es : Nat} {μ μ' μ'' : Mem} {ds : List D} {ys : List Value} {d : D} {v : Value} (k : Grown es μ μ' ds ys) (h0 : μ.Le μ') (hv : Fresh μ' μ'' d v) (h1 : μ'.Le μ'') (hn : d.n = es) : Grown es μ μ'' (ds ++ [d]) (ys ++ [v]) := by
  obtain ⟨g, a, b, c⟩ := k
  obtain ⟨g', a', b', c'⟩ := hv
  refine ⟨g.join g', a.snoc a' hn (fresh_apart b c'), join_le (b.trans h1) b', fun x hx => ?_⟩
  rcases join_ne hx with h | h
  · exact c x h
  · have h3 := c' x h
    cases h4 : μ x with
    | none => rfl
    | some o => rw [h0 x o h4] at h3; cases h3
theorem Grown.mono {es : Nat} {μ μ' μ'' : Mem} {ds : List D} {ys : List Value} (k : Grown es μ μ' ds ys) (h : μ'.Le μ'') : Grown es μ μ'' ds ys := by
  obtain ⟨g, a, b, c⟩ := k
  exact ⟨g, a, b.trans h, c⟩
theorem Grown.len {es : Nat} {μ μ' : Mem} {ds : List D} {ys : List Value} (k : Grown es μ μ' ds ys) : ds.length = ys.length := by
  obtain ⟨g, a, _⟩ := k
  exact a.len
theorem Grown.fresh {es : Nat} {μ μ1 μ' : Mem} {b : Option Nat} {cap : Nat} {ds : List D} {ys : List Value} (k : Grown es μ μ1 ds ys) (h0 : μ.Le μ1) (h1 : μ1.Le μ') (hb : ∀ r, b = some r → μ1 r = none) (hr : RowAt μ' b cap es ys) (hm : ys.length ≤ maxLen) :
    Fresh μ μ' (.sl es ds) (.slice (b.map fun r => ⟨r, 0, none⟩) ys.length cap) := by
  obtain ⟨g, a, b', c⟩ := k
  exact Fresh.ofRow a b' c h0 h1 hb hr hm
/-! ### Owned memory lent -/
theorem Fresh.unlend {μ1 : Mem} {d : D} {v : Value} (k : Fresh (μ.join H) μ1 d v) (_ha : Apart μ H) : Fresh μ (μ1.sub H) d v := by
  obtain ⟨g, a, b, c⟩ := k
  have c1 : ∀ x, g x ≠ none → μ x = none ∧ H x = none := fun x hx => by
    have h1 := c x hx
    rw [Mem.join_get] at h1
    cases h2 : μ x with
    | none => rw [h2] at h1; exact ⟨rfl, h1⟩
    | some o => rw [h2] at h1; cases h1
  refine ⟨g, a, fun x o hx => ?_, fun x hx => (c1 x hx).1⟩
  rw [Mem.sub_of (c1 x (by simp [hx])).2]
  exact b x o hx
variable {dr : Bool} {s : St} {K : Value → St → Prop}
/-- A call that reads owned memory and makes new data. -/
theorem call_lend {d : D} (hap : Apart s.mem s.own) (h : Spec P f args (s.mem.join s.own) fun v μ' => Fresh (s.mem.join s.own) μ' d v)
    (k : ∀ v μ', s.mem.Le μ' → Apart μ' s.own → Fresh s.mem μ' d v → memOwnK s μ' s.own fun s => K v s) : callVC dr P f args s K :=
  call_own (SpecH.lend hap h) fun v μ' H' hle ha' ⟨h1, μ1, h2, _, h4⟩ => by
    subst h1 h4
    exact k v _ hle ha' (h2.unlend hap)
end
section
variable {μ : Mem}
/-- Variables visited; what the closure owns is told by a relation. -/
theorem eachVar_rel {S : Type} (J : S → Mem → Prop) (step : S → Int → S) (Q : S → Int → Prop) {k : FuncId} {caps : List Value}
    (hc : ∀ s h n, Q s n → J s h → SpecH Tryz.prog k (.int .i64 n :: caps) μ h fun r μ' h' => r = .tuple #[] ∧ μ' = μ ∧ J (step s n) h') :
    ∀ (x : T) {v : Value} (s : S) (h : Mem), RepV μ x.tm.d v → (∀ pre n post, x.vars = pre ++ n :: post → Q (pre.foldl step s) n) → J s h → SpecH Tryz.prog 93 [v, .func (.func k) #[] caps.toArray] μ h fun r μ' h' => r = .tuple #[] ∧ μ' = μ ∧ J (x.vars.foldl step s) h'
  | .var n, v, s, h, hv, hq, hj => by
    have hv_ := Tm.inv hv
    obtain ⟨base, cap, rfl, hsl⟩ := hv_
    refine SpecH.mk [] Tryz.func93 (by kernel_rfl) ?_
    intro r
    refine ifd (fun _ => ?_) (fun h => absurd rfl h)
    refine call_own (hc s h n (hq [] n [] rfl) hj) fun v μ' h' hle hap hR => ?_
    obtain ⟨rfl, e2, hj'⟩ := hR
    obtain rfl := e2.symm
    refine ifd (fun h => absurd h (by decide)) (fun _ => ?_)
    exact ret_plain ⟨rfl, rfl, hj'⟩
  | .nil, v, s, h, hv, hq, hj => by
    have hv_ := Tm.inv hv
    obtain ⟨base, cap, rfl, hsl⟩ := hv_
    refine SpecH.mk [] Tryz.func93 (by kernel_rfl) ?_
    intro r
    refine ifd (fun h => absurd h (by decide)) (fun _ => ?_)
    refine ifd (fun h => absurd h (by decide)) (fun _ => ?_)
    exact ret_plain ⟨rfl, rfl, hj⟩
  | .sym _, v, s, h, hv, hq, hj => by
    have hv_ := Tm.inv hv
    obtain ⟨base, cap, rfl, hsl⟩ := hv_
    refine SpecH.mk [] Tryz.func93 (by kernel_rfl) ?_
    intro r
    refine ifd (fun h => absurd h (by decide)) (fun _ => ?_)
    refine ifd (fun h => absurd h (by decide)) (fun _ => ?_)
    exact ret_plain ⟨rfl, rfl, hj⟩
  | .num _, v, s, h, hv, hq, hj => by
    have hv_ := Tm.inv hv
    obtain ⟨base, cap, rfl, hsl⟩ := hv_
    refine SpecH.mk [] Tryz.func93 (by kernel_rfl) ?_
    intro r
    refine ifd (fun h => absurd h (by decide)) (fun _ => ?_)
    refine ifd (fun h => absurd h (by decide)) (fun _ => ?_)
    exact ret_plain ⟨rfl, rfl, hj⟩
  | .pair a b, v, s, h, hv, hq, hj => by
    have hv_ := Tm.inv hv
    obtain ⟨base, cap, rfl, hsl⟩ := hv_
    have hv_ := T.parts hsl
    obtain ⟨ad, ad', p, p', h1, h2, hra, hrb⟩ := hv_
    refine SpecH.mk [] Tryz.func93 (by kernel_rfl) ?_
    intro r
    refine ifd (fun h => absurd h (by decide)) (fun _ => ?_)
    refine ifd (fun _ => ?_) (fun h => absurd rfl h)
    refine elem_intro h1 (call_own (eachVar_rel J step Q hc a s h hra (fun pre n post e => hq pre n (post ++ b.vars) (by simp [T.vars, e])) hj) fun v μ' h' hle hap hR => ?_)
    obtain ⟨rfl, e2, hj'⟩ := hR
    obtain rfl := e2.symm
    refine elem_intro h2 (call_own (eachVar_rel J step Q hc b _ h' hrb (fun pre n post e => by
      have := hq (a.vars ++ pre) n post (by simp [T.vars, e])
      rwa [List.foldl_append] at this) hj') fun v μ' h' hle hap hR => ?_)
    obtain ⟨rfl, e2, hj'⟩ := hR
    obtain rfl := e2.symm
    exact ret_plain ⟨rfl, rfl, by simpa [T.vars, List.foldl_append] using hj'⟩
end
end Go.Vx

/- Contracts: variables in the order in which they come. -/
namespace Go.Vx
open Go.Proofs Classical
noncomputable def ord (acc : List Int) (n : Int) : List Int := if n ∈ acc then acc else acc ++ [n]
noncomputable def ordAll (acc vs : List Int) : List Int := vs.foldl ord acc
theorem ordAll_append (acc a b : List Int) : ordAll acc (a ++ b) = ordAll (ordAll acc a) b := List.foldl_append
theorem ord_length (acc : List Int) (n : Int) : (ord acc n).length ≤ acc.length + 1 := by unfold ord; split <;> simp
theorem ordAll_length : ∀ (vs acc : List Int), (ordAll acc vs).length ≤ acc.length + vs.length
  | [], acc => by simp [ordAll]
  | n :: vs, acc => by
    have h1 := ordAll_length vs (ord acc n)
    have h2 := ord_length acc n
    simp only [ordAll, List.foldl_cons, List.length_cons] at *
    omega
theorem ord_mem (acc : List Int) (n m : Int) : m ∈ ord acc n ↔ m = n ∨ m ∈ acc := by
  unfold ord
  split
  · rename_i h
    exact ⟨.inr, fun k => k.elim (fun e => e ▸ h) id⟩
  · simp only [List.mem_append, List.mem_singleton]
    exact or_comm
theorem ordAll_mem : ∀ (vs acc : List Int) (m : Int), m ∈ ordAll acc vs ↔ m ∈ vs ∨ m ∈ acc
  | [], acc, m => by simp [ordAll]
  | n :: vs, acc, m => by
    have := ordAll_mem vs (ord acc n) m
    simp only [ordAll, List.foldl_cons] at *
    rw [this, ord_mem, List.mem_cons]
    constructor
    · rintro (h | h | h) <;> simp [h]
    · rintro ((h | h) | h) <;> simp [h]
theorem ord_nodup {acc : List Int} (h : acc.Nodup) (n : Int) : (ord acc n).Nodup := by
  unfold ord
  split
  · exact h
  · rename_i hn
    refine List.nodup_append.2 ⟨h, by simp, fun a ha b hb => ?_⟩
    simp only [List.mem_singleton] at hb
    subst hb
    exact fun e => hn (e ▸ ha)
theorem ordAll_nodup : ∀ (vs : List Int) {acc : List Int}, acc.Nodup → (ordAll acc vs).Nodup
  | [], _, h => h
  | n :: vs, _acc, h => ordAll_nodup vs (ord_nodup h n)
section
variable {μ : Mem}
/-- What the program's closure owns: the set of those seen, and those in order. -/
def OrdInv (rm ro : Nat) (acc : List Int) (h : Mem) : Prop := ∃ r rr cap l, h rm = some (.cells #[.map (some r)] 299 (0, 0)) ∧ h ro = some (.cells #[.slice (some ⟨rr, 0, none⟩) acc.length cap] 74 (0, 0)) ∧
  h r = some (mapO l) ∧ MapOk IntKey l ∧ (∀ n, mget l (.int .i64 n) = if n ∈ acc then some (.bool true) else none) ∧ RowO h rr cap 3 1 (ints acc)
theorem orderedVars1_spec {rm ro : Nat} {acc : List Int} {h : Mem} (n : Int) (hb : acc.length ≤ 1000000000000) (H : OrdInv rm ro acc h) :
    SpecH Tryz.prog 331 [.int .i64 n, .pointer (some ⟨rm, 0, none⟩), .pointer (some ⟨ro, 0, none⟩)] μ h fun v μ' h' => v = .tuple #[] ∧ μ' = μ ∧ OrdInv rm ro (ord acc n) h' := by
  have H0 := H
  obtain ⟨r, rr, cap, l, h1, h2, h3, hk, hg, hr⟩ := H
  refine SpecH.mk [] Tryz.func331 (by kernel_rfl) ?_
  refine own_intro [.map (some r)] rfl (box_at h1) ?_
  by_cases hn : n ∈ acc
  · refine look_intro l (some (.bool true)) h3 (hk.weaken (by rintro _ ⟨n, rfl⟩; rfl)) rfl (by rw [hg, if_pos hn]) ?_
    refine if_intro (fun h => nomatch h) (fun _ => ?_)
    exact ret_plain ⟨rfl, rfl, by rw [ord, if_pos hn]; exact H0⟩
  · refine look_intro l none h3 (hk.weaken (by rintro _ ⟨n, rfl⟩; rfl)) rfl (by rw [hg, if_neg hn]) ?_
    refine if_intro (fun _ => ?_) (fun h => nomatch h)
    obtain ⟨cs, hcs⟩ := hr.obj
    have e1 : rm ≠ r := ne_of_obj h1 h3 (by simp [mapO])
    have e2 : ro ≠ r := ne_of_obj h2 h3 (by simp [mapO])
    have e3 : rr ≠ r := ne_of_obj hcs h3 (by simp [mapO])
    have e4 : rm ≠ ro := ne_of_obj h1 h2 (by simp)
    have e5 : rr ≠ rm := ne_of_obj hcs h1 (by simp)
    have e6 : rr ≠ ro := ne_of_obj hcs h2 (by simp)
    refine own_intro [.map (some r)] rfl (box_at h1) ?_
    refine upd_intro l h3 (hk.weaken (by rintro _ ⟨n, rfl⟩; rfl)) rfl ?_
    generalize hl' : mset l (.int .i64 n) (.bool true) = l'
    have g2 : (h.set r (mapO l')) ro = some (.cells #[.slice (some ⟨rr, 0, none⟩) acc.length cap] 74 (0, 0)) := by rw [Mem.set_ne e2]; exact h2
    refine own_intro [.slice (some ⟨rr, 0, none⟩) acc.length cap] rfl (box_at g2) ?_
    intro r1
    refine app_intro (ints acc) (by simp [ints]) (hr.set_ne e3) ?_ ?_ fun r' cap' o hrow hor => ?_
    · show (acc.length + 1) * 8 ≤ _; omega
    · exact Nat.le_trans (show acc.length + 1 ≤ 1000000000001 by omega) (by decide)
    dsimp only at hrow hor
    have f1 : rm ≠ r' := by
      rcases hor with e | ⟨e, _⟩
      · rw [e]; exact e5.symm
      · exact ne_of_none (by rw [Mem.set_ne e1]; exact h1) e
    have f2 : ro ≠ r' := by
      rcases hor with e | ⟨e, _⟩
      · rw [e]; exact e6.symm
      · exact ne_of_none g2 e
    have f3 : r ≠ r' := by
      rcases hor with e | ⟨e, _⟩
      · rw [e]; exact e3.symm
      · exact ne_of_none (Mem.set_at _ _ _) e
    refine sto_intro [.slice (some ⟨rr, 0, none⟩) acc.length cap] 74 (by show (Mem.set (Mem.set h r (mapO l')) r' o) ro = _; rw [Mem.set_ne f2]; exact g2) rfl (Nat.le_refl _) ?_
    refine ret_plain ⟨rfl, rfl, r, r', cap', l', ?_, ?_, ?_, ?_, ?_, ?_⟩
    · show (Mem.set (Mem.set (Mem.set h r (mapO l')) r' o) ro _) rm = _
      rw [Mem.set_ne e4, Mem.set_ne f1, Mem.set_ne e1]; exact h1
    · show (Mem.set (Mem.set (Mem.set h r (mapO l')) r' o) ro _) ro = _
      rw [Mem.set_at, ord, if_neg hn]
      simp
    · show (Mem.set (Mem.set (Mem.set h r (mapO l')) r' o) ro _) r = _
      rw [Mem.set_ne e2.symm, Mem.set_ne f3, Mem.set_at]
    · rw [← hl']; exact hk.int _
    · intro m
      rw [← hl', mget_int, hg, ord, if_neg hn]
      by_cases e : m = n
      · subst e; rw [if_pos rfl, if_pos (by simp)]
      · rw [if_neg e]
        by_cases e' : m ∈ acc
        · rw [if_pos e', if_pos (by simp [e'])]
        · rw [if_neg e', if_neg (by simp [e', e])]
    · have e : ints (ord acc n) = ints acc ++ [.int .i64 n] := by rw [ord, if_neg hn]; simp [ints]
      rw [e]
      exact hrow.set_ne f2.symm
theorem flat_vars_length {xs : List T} (hx : ∀ x ∈ xs, x.size ≤ 5000) : (xs.flatMap T.vars).length ≤ xs.length * 5000 := by
  induction xs with
  | nil => simp
  | cons x xs ih =>
    have h1 := T.vars_size x
    have h2 := hx x (by simp)
    have h3 := ih fun y hy => hx y (by simp [hy])
    simp only [List.flatMap_cons, List.length_append, List.length_cons]
    omega
theorem flat_take {α β : Type} {f : α → List β} {xs : List α} {i : Nat} {x : α} (h : xs[i]? = some x) : (xs.take (i + 1)).flatMap f = (xs.take i).flatMap f ++ f x := by
  rw [List.take_add_one, h, Option.toList_some, List.flatMap_append]; simp
theorem impl_orderedVars_spec {xs : List T} {base : Option Addr} {cap : Nat} (hsl : Sl μ 4 base xs.length ((xs.map T.tm).map Tm.d)) (hx : ∀ x ∈ xs, x.size ≤ 5000) (hn : xs.length ≤ 10000000) :
    Spec Tryz.prog 304 [.slice base xs.length cap] μ fun v μ' => RepV μ' (.sl 1 ((ordAll [] (xs.flatMap T.vars)).map D.i)) v := by
  have htot := flat_vars_length hx
  refine Spec.mkO [7, 3, 4] Tryz.func304 (by kernel_rfl) ?_
  intro r7 hm7 ho7 r3 hm3 ho3
  refine sto_intro [.slice none 0 0] 74 (Mem.set_at _ _ _) rfl (Nat.le_refl _) ?_
  intro rM hmM hoM r4 hm4 ho4
  refine sto_intro [.map none] 299 (Mem.set_at _ _ _) rfl (Nat.le_refl _) ?_
  generalize hh : Mem.set (Mem.set _ r4 _) r4 _ = h0
  have n1 : r7 ≠ r3 := fun e => by subst e; simp [Mem.set_get] at ho3
  have n2 : rM ≠ r3 := fun e => by subst e; simp [Mem.set_get] at hoM
  have n3 : rM ≠ r7 := fun e => by subst e; simp [Mem.set_get, n1] at hoM
  have n4 : r4 ≠ rM := fun e => by subst e; simp [Mem.set_get] at ho4
  have n5 : r4 ≠ r3 := fun e => by subst e; simp [Mem.set_get, n2.symm] at ho4
  have n6 : r4 ≠ r7 := fun e => by subst e; simp [Mem.set_get, n1, n3.symm] at ho4
  have H0 : OrdInv r4 r3 [] h0 := by
    subst hh
    refine ⟨rM, r7, 0, [], ?_, ?_, ?_, MapOk.nil, fun n => rfl, ⟨[], ?_, Nat.le_refl _, Nat.zero_le _, by simp [ints], by simp, by simp [ints]⟩⟩
    · dsimp only; rw [Mem.set_at]; rfl
    · dsimp only; rw [Mem.set_ne n5.symm, Mem.set_ne n5.symm, Mem.set_ne n2.symm, Mem.set_at]; rfl
    · dsimp only; rw [Mem.set_ne n4.symm, Mem.set_ne n4.symm, Mem.set_at]
    · dsimp only; rw [Mem.set_ne n6.symm, Mem.set_ne n6.symm, Mem.set_ne n3.symm, Mem.set_ne n1, Mem.set_ne n1, Mem.set_at]; rfl
  have A0 : Apart μ h0 := by
    subst hh
    exact (((((((apart_nil μ).set hm7).set hm3).set hm3).set hmM).set hm4).set hm4)
  refine loop_intro (fun p : Nat × Mem => p.1 ≤ xs.length ∧ Apart μ p.2 ∧ OrdInv r4 r3 (ordAll [] ((xs.take p.1).flatMap T.vars)) p.2)
    (fun (i, h) => ⟨[(3, .val (.pointer (some ⟨r3, 0, none⟩))), (4, .val (.pointer (some ⟨r4, 0, none⟩))), (9, .val (.slice base xs.length cap)), (10, .val (.int .i64 xs.length)), (11, .val (.int .i64 i))], [], 0, μ, h⟩) (fun p => xs.length - p.1)
    (0, h0) ⟨by simp, A0, H0⟩ (fun (_, _) => ⟨rfl, rfl⟩) ⟨⟨rfl, rfl, rfl, rfl, rfl, trivial⟩, trivial, rfl, rfl⟩ ?_
  rintro ⟨i, h⟩ ⟨hi, hap, hJ⟩
  dsimp only at hi hap hJ
  refine ifd (fun hlt => ?_) (fun hlt => ?_)
  · have hv_ := at_some (l := xs) (i := i) (by omega)
    obtain ⟨x, hx'⟩ := hv_
    have hv_ := Tm.elem (i := i) (t := x.tm) hsl (by simp [hx'])
    obtain ⟨ad, p, hel, hto⟩ := hv_
    have hpre := flatMap_take_le T.vars xs i
    have hsz := T.vars_size x
    have hsz2 := hx x (mem_at hx')
    refine elem_intro hel ?_
    intro r
    refine call_own (eachVar_rel (OrdInv r4 r3) ord (fun s _ => s.length ≤ 1000000000000) (fun s h n hq hj => orderedVars1_spec n hq hj) x _ h hto (fun pre n post e => ?_) hJ) fun v μ' h' hle hap' hR => ?_
    · have h1 := ordAll_length pre (ordAll [] ((xs.take i).flatMap T.vars))
      have h2 := ordAll_length ((xs.take i).flatMap T.vars) []
      have h3 : pre.length ≤ x.vars.length := by rw [e]; simp
      show (ordAll _ pre).length ≤ _
      simp only [List.length_nil] at h2
      omega
    obtain ⟨rfl, e2, hj'⟩ := hR
    obtain rfl := e2.symm
    refine num64 (by omega) (by omega) ⟨(i + 1, h'), ⟨by dsimp only; omega, hap', ?_⟩, by dsimp only; omega, ⟨⟨rfl, rfl, rfl, rfl, rfl, trivial⟩, trivial, rfl, rfl⟩⟩
    dsimp only
    rw [flat_take hx', ordAll_append]
    exact hj'
  · obtain rfl : i = xs.length := by omega
    rw [List.take_length] at hJ
    obtain ⟨r, rr, cap', l, g1, g2, g3, gk, gg, gr⟩ := hJ
    refine own_intro [.slice (some ⟨rr, 0, none⟩) (ordAll [] (xs.flatMap T.vars)).length cap'] rfl (box_at g2) ?_
    refine ret_own h Mem.nil (Parts.nil_right h) ?_
    have := gr.rep (Mem.le_join_right hap) (Ints.rows (ordAll [] (xs.flatMap T.vars)))
    simpa [ints] using this
/-! ### The reference's -/
theorem l02Has_spec {l : List Int} {base : Option Addr} {cap : Nat} {n : Int} (hsl : Sl μ 1 base l.length (l.map D.i)) : Gives Tryz.prog 340 [.slice base l.length cap, .int .i64 n] μ (.bool (decide (n ∈ l))) := by
  have hn := maxLen_le hsl.max
  refine Spec.mk Tryz.func340 (by kernel_rfl) ?_
  refine loop_intro (fun i : Nat => i ≤ l.length ∧ n ∉ l.take i) (fun i => ⟨[(1, .val (.int .i64 n)), (7, .val (.slice base l.length cap)), (8, .val (.int .i64 l.length)), (9, .val (.int .i64 i))], [], 0, μ, Mem.nil⟩) (fun i => l.length - i)
    0 ⟨by omega, by simp⟩ (fun i => ⟨rfl, rfl⟩) ⟨⟨rfl, rfl, rfl, rfl, trivial⟩, trivial, rfl, rfl⟩ ?_
  rintro i ⟨hi, hno⟩
  refine ifd (fun h => ?_) (fun h => ?_)
  · have hv_ := at_some (l := l) (i := i) (by omega)
    obtain ⟨x, hx⟩ := hv_
    have hv_ := Ints.elem hsl hx
    obtain ⟨ad, hel⟩ := hv_
    refine elem_intro hel ?_
    refine ifd (fun h2 => ret_gives (isT (by rw [← h2]; exact mem_at hx)) rfl) (fun h2 => ?_)
    refine num64 (by omega) (by omega) ⟨i + 1, ⟨by omega, ?_⟩, by omega, ⟨⟨rfl, rfl, rfl, rfl, trivial⟩, trivial, rfl, rfl⟩⟩
    rw [List.take_add_one, hx, Option.toList_some, List.mem_append, List.mem_singleton]
    rintro (k | k)
    · exact hno k
    · exact h2 k.symm
  · obtain rfl : i = l.length := by omega
    rw [List.take_length] at hno
    exact ret_gives (isF hno) rfl
theorem l07Order_spec : ∀ (x : T) {h : Mem} {r cap : Nat} {acc : List Int} {w : Value}, RepV μ x.tm.d w → RowO h r cap 3 1 (ints acc) → acc.length + x.vars.length ≤ 1000000000000 →
    SpecH Tryz.prog 330 [w, .slice (some ⟨r, 0, none⟩) acc.length cap] μ h fun v μ' h' => μ' = μ ∧ ∃ r' cap', v = .slice (some ⟨r', 0, none⟩) (ordAll acc x.vars).length cap' ∧ RowO h' r' cap' 3 1 (ints (ordAll acc x.vars)) :=
  T.ind fun x ih h r cap acc w hw hr hb => by
    have hv_ := T.inv hw
    obtain ⟨base, cap2, rfl, hsl⟩ := hv_
    have hn := T.args_le x
    refine SpecH.mkA [] Tryz.func330 (by kernel_rfl) (by kernel_rfl) fun hap => ?_
    intro r0
    have main : (x.tm.kind = 1 → x.tm.num ∈ acc) → x.vars.foldl ord acc = (x.args.flatMap T.vars).foldl ord acc := fun hk => by
      cases x with
      | var n =>
        have : n ∈ acc := hk rfl
        simp [T.vars, T.args, ord, this]
      | _ => simp [T.vars, T.args]
    by_cases hk : x.tm.kind = 1 ∧ x.tm.num ∉ acc
    · obtain ⟨hk1, hk2⟩ := hk
      have e : x.vars = [x.tm.num] := by cases x <;> simp_all [T.vars, T.tm, Tm.kind, Tm.num]
      refine ifd (fun _ => ?_) (fun h => absurd hk1 h)
      refine call_read hap (l02Has_spec (hr.ints (Mem.le_join_right hap))) ?_
      refine ifnd (fun _ => ?_) (fun h => absurd h hk2)
      intro r1
      refine app_intro (ints acc) (by simp [ints]) hr ?_ ?_ fun r' cap' o hrow hor => ?_
      · show (acc.length + 1) * 8 ≤ _; omega
      · exact Nat.le_trans (show acc.length + 1 ≤ 1000000000001 by omega) (by decide)
      have e2 : ordAll acc x.vars = acc ++ [x.tm.num] := by rw [e]; simp [ordAll, ord, hk2]
      rw [e2]
      refine ret_plain ⟨rfl, r', cap', by simp, ?_⟩
      have : ints (acc ++ [x.tm.num]) = ints acc ++ [.int .i64 x.tm.num] := by simp [ints]
      rw [this]; exact hrow
    · have hk' : x.tm.kind = 1 → x.tm.num ∈ acc := fun h => Classical.not_not.1 fun h2 => hk ⟨h, h2⟩
      have e2 : ordAll acc x.vars = ordAll acc (x.args.flatMap T.vars) := main hk'
      have hvl : (x.args.flatMap T.vars).length ≤ x.vars.length := by cases x <;> simp [T.vars, T.args]
      rw [e2]
      refine ifd (fun h1 => ?_) (fun h1 => ?_)
      · refine call_read hap (l02Has_spec (hr.ints (Mem.le_join_right hap))) ?_
        refine ifnd (fun h2 => absurd (hk' h1) h2) (fun _ => ?_)
        refine loop_intro (fun p : Nat × Nat × Nat × Mem => p.1 ≤ x.args.length ∧ Apart μ p.2.2.2 ∧ RowO p.2.2.2 p.2.1 p.2.2.1 3 1 (ints (ordAll acc ((x.args.take p.1).flatMap T.vars))))
          (fun (i, r, cap, h) => ⟨[(1, .val (.slice (some ⟨r, 0, none⟩) (ordAll acc ((x.args.take i).flatMap T.vars)).length cap)), (23, .val (.slice base x.args.length cap2)), (24, .val (.int .i64 x.args.length)), (25, .val (.int .i64 i))], [], 1, μ, h⟩) (fun p => x.args.length - p.1)
          (0, r, cap, h) ⟨by simp, hap, hr⟩ (fun (_, _, _, _) => ⟨rfl, rfl⟩) ⟨⟨rfl, rfl, rfl, rfl, trivial⟩, trivial, rfl, rfl⟩ ?_
        rintro ⟨i, r, cap, h⟩ ⟨hi, hap, hr⟩
        dsimp only at hi hap hr
        refine ifd (fun hlt => ?_) (fun hlt => ?_)
        · have hv_ := at_some (l := x.args) (i := i) (by omega)
          obtain ⟨t, ht⟩ := hv_
          have hv_ := T.arg hsl ht
          obtain ⟨ad, p, hel, hto⟩ := hv_
          have hl1 := ordAll_length ((x.args.take i).flatMap T.vars) acc
          have hl2 : ((x.args.take (i + 1)).flatMap T.vars).length ≤ (x.args.flatMap T.vars).length := flatMap_take_le _ _ _
          rw [flat_take ht, List.length_append] at hl2
          refine elem_intro hel ?_
          intro r2
          refine call_own (ih t (mem_at ht) hto hr (by omega)) fun v μ' h' hle hap' hR => ?_
          obtain ⟨e3, r', cap', rfl, hr'⟩ := hR
          obtain rfl := e3.symm
          refine num64 (by omega) (by omega) ⟨(i + 1, r', cap', h'), ⟨by dsimp only; omega, hap', ?_⟩, by dsimp only; omega, ⟨⟨?_, rfl, rfl, rfl, trivial⟩, trivial, rfl, rfl⟩⟩
          · dsimp only; rw [flat_take ht, ordAll_append]; exact hr'
          · rw [flat_take ht, ordAll_append]; rfl
        · obtain rfl : i = x.args.length := by omega
          rw [List.take_length] at *
          exact ret_plain ⟨rfl, r, cap, rfl, hr⟩
      · refine loop_intro (fun p : Nat × Nat × Nat × Mem => p.1 ≤ x.args.length ∧ Apart μ p.2.2.2 ∧ RowO p.2.2.2 p.2.1 p.2.2.1 3 1 (ints (ordAll acc ((x.args.take p.1).flatMap T.vars))))
          (fun (i, r, cap, h) => ⟨[(1, .val (.slice (some ⟨r, 0, none⟩) (ordAll acc ((x.args.take i).flatMap T.vars)).length cap)), (23, .val (.slice base x.args.length cap2)), (24, .val (.int .i64 x.args.length)), (25, .val (.int .i64 i))], [], 1, μ, h⟩) (fun p => x.args.length - p.1)
          (0, r, cap, h) ⟨by simp, hap, hr⟩ (fun (_, _, _, _) => ⟨rfl, rfl⟩) ⟨⟨rfl, rfl, rfl, rfl, trivial⟩, trivial, rfl, rfl⟩ ?_
        rintro ⟨i, r, cap, h⟩ ⟨hi, hap, hr⟩
        dsimp only at hi hap hr
        refine ifd (fun hlt => ?_) (fun hlt => ?_)
        · have hv_ := at_some (l := x.args) (i := i) (by omega)
          obtain ⟨t, ht⟩ := hv_
          have hv_ := T.arg hsl ht
          obtain ⟨ad, p, hel, hto⟩ := hv_
          have hl1 := ordAll_length ((x.args.take i).flatMap T.vars) acc
          have hl2 : ((x.args.take (i + 1)).flatMap T.vars).length ≤ (x.args.flatMap T.vars).length := flatMap_take_le _ _ _
          rw [flat_take ht, List.length_append] at hl2
          refine elem_intro hel ?_
          intro r2
          refine call_own (ih t (mem_at ht) hto hr (by omega)) fun v μ' h' hle hap' hR => ?_
          obtain ⟨e3, r', cap', rfl, hr'⟩ := hR
          obtain rfl := e3.symm
          refine num64 (by omega) (by omega) ⟨(i + 1, r', cap', h'), ⟨by dsimp only; omega, hap', ?_⟩, by dsimp only; omega, ⟨⟨?_, rfl, rfl, rfl, trivial⟩, trivial, rfl, rfl⟩⟩
          · dsimp only; rw [flat_take ht, ordAll_append]; exact hr'
          · rw [flat_take ht, ordAll_append]; rfl
        · obtain rfl : i = x.args.length := by omega
          rw [List.take_length] at *
          exact ret_plain ⟨rfl, r, cap, rfl, hr⟩
theorem spec_OrderedVars_spec {xs : List T} {base : Option Addr} {cap : Nat} (hsl : Sl μ 4 base xs.length ((xs.map T.tm).map Tm.d)) (hw : D.wds ((xs.map T.tm).map Tm.d)) (hx : ∀ x ∈ xs, x.ok) (hn : xs.length ≤ 10000000) :
    Spec Tryz.prog 302 [.slice base xs.length cap] μ fun v μ' => RepV μ' (.sl 1 ((ordAll [] (xs.flatMap T.vars)).map D.i)) v := by
  have htot := flat_vars_length fun x h => (hx x h).2
  refine Spec.mkO [9] Tryz.func302 (by kernel_rfl) ?_
  have hall := l02AllOk_spec (l := xs.map T.tm) (cap := cap) (by rw [List.length_map]; exact hsl) hw
  rw [List.length_map] at hall
  refine call_gives hall ?_
  refine ifnd (fun h => absurd (fun t ht => ?_) h) (fun _ => ?_)
  · have hv_ := List.mem_map.1 ht
    obtain ⟨x, hx', rfl⟩ := hv_
    exact (hx x hx').tm
  intro r9 hm9 ho9
  have A0 : Apart μ (Mem.nil.set r9 (.cells (List.toArray (([] : List Value).flatMap vcells)) 3 (0, 0))) := (apart_nil μ).set hm9
  have R0 : RowO (Mem.nil.set r9 (.cells (List.toArray (([] : List Value).flatMap vcells)) 3 (0, 0))) r9 0 3 1 (ints []) := RowO.mk_nil _ _ _ _
  refine loop_intro (fun p : Nat × Nat × Nat × Mem => p.1 ≤ xs.length ∧ Apart μ p.2.2.2 ∧ RowO p.2.2.2 p.2.1 p.2.2.1 3 1 (ints (ordAll [] ((xs.take p.1).flatMap T.vars))))
    (fun (i, r, c, h) => ⟨[(3, .val (.slice (some ⟨r, 0, none⟩) (ordAll [] ((xs.take i).flatMap T.vars)).length c)), (10, .val (.slice base xs.length cap)), (11, .val (.int .i64 xs.length)), (12, .val (.int .i64 i))], [], 0, μ, h⟩) (fun p => xs.length - p.1)
    (0, r9, 0, _) ⟨by simp, A0, R0⟩ (fun (_, _, _, _) => ⟨rfl, rfl⟩) ⟨⟨rfl, rfl, rfl, rfl, trivial⟩, trivial, rfl, rfl⟩ ?_
  rintro ⟨i, r, c, h⟩ ⟨hi, hap, hr⟩
  dsimp only at hi hap hr
  refine ifd (fun hlt => ?_) (fun hlt => ?_)
  · have hv_ := at_some (l := xs) (i := i) (by omega)
    obtain ⟨x, hx'⟩ := hv_
    have hv_ := Tm.elem (i := i) (t := x.tm) hsl (by simp [hx'])
    obtain ⟨ad, p, hel, hto⟩ := hv_
    have hl1 := ordAll_length ((xs.take i).flatMap T.vars) []
    have hl2 := flatMap_take_le T.vars xs (i + 1)
    rw [flat_take hx', List.length_append] at hl2
    simp only [List.length_nil] at hl1
    refine elem_intro hel ?_
    intro r2
    refine call_own (l07Order_spec x hto hr (by omega)) fun v μ' h' hle hap' hR => ?_
    obtain ⟨e3, r', cap', rfl, hr'⟩ := hR
    obtain rfl := e3.symm
    refine num64 (by omega) (by omega) ⟨(i + 1, r', cap', h'), ⟨by dsimp only; omega, hap', ?_⟩, by dsimp only; omega, ⟨⟨?_, rfl, rfl, rfl, trivial⟩, trivial, rfl, rfl⟩⟩
    · dsimp only; rw [flat_take hx', ordAll_append]; exact hr'
    · rw [flat_take hx', ordAll_append]; rfl
  · obtain rfl : i = xs.length := by omega
    rw [List.take_length] at *
    refine ret_own h Mem.nil (Parts.nil_right h) ?_
    have := hr.rep (Mem.le_join_right hap) (Ints.rows (ordAll [] (xs.flatMap T.vars)))
    simpa [ints] using this
end
end Go.Vx

/- Contracts: bindings inserted; names by number; the reference's canonical terms. -/
namespace Go.Vx
open Go.Proofs Classical
section
variable {μ : Mem}
theorem Rep.val : ∀ {d : D} {c : List Value}, Rep μ d c → ∃ v, RepV μ d v ∧ vcells v = c
  | .st fs, c, h => ⟨.agg c.toArray, ⟨c, rfl, h⟩, by simp [vcells]⟩
  | .i n, c, h => by
    have h2 : c = [.int .i64 n] := h
    subst h2; exact ⟨_, h, rfl⟩
  | .b x, c, h => by
    have h2 : c = [.bool x] := h
    subst h2; exact ⟨_, h, rfl⟩
  | .s x, c, h => by
    have h2 : c = [.string x] := h
    subst h2; exact ⟨_, h, rfl⟩
  | .sl es xs, c, h => by
    obtain ⟨base, cap, h1, h2⟩ := h
    subst h1
    exact ⟨_, ⟨base, cap, rfl, h2⟩, rfl⟩
theorem RepS.rows {es : Nat} : ∀ {l : List D} {flat : List Value}, RepS μ l flat → (∀ x ∈ l, x.n = es) → ∃ vs, Rows μ es l vs ∧ vs.flatMap vcells = flat
  | [], flat, h, _ => by
    have h : flat = [] := h
    subst h; exact ⟨[], .nil, rfl⟩
  | d :: l, flat, h, hn => by
    obtain ⟨c1, c2, rfl, h1, h2⟩ := h
    have hv_ := Rep.val h1
    obtain ⟨v, hv, rfl⟩ := hv_
    have hv_ := RepS.rows h2 fun x hx => hn x (by simp [hx])
    obtain ⟨vs, hr, rfl⟩ := hv_
    exact ⟨v :: vs, .cons hv (hn d (by simp)) hr, by simp⟩
theorem Rows.take {es : Nat} : ∀ {ds : List D} {vs : List Value} (k : Nat), Rows μ es ds vs → Rows μ es (ds.take k) (vs.take k)
  | _, _, 0, _ => by simpa using Rows.nil
  | _, _, k + 1, .nil => by simpa using Rows.nil
  | _, _, k + 1, .cons h hn r => by simpa using Rows.cons h hn (r.take k)
theorem Rows.drop {es : Nat} : ∀ {ds : List D} {vs : List Value} (k : Nat), Rows μ es ds vs → Rows μ es (ds.drop k) (vs.drop k)
  | _, _, 0, h => by simpa using h
  | _, _, k + 1, .nil => by simpa using Rows.nil
  | _, _, k + 1, .cons h hn r => by simpa using r.drop k
theorem Rows.size {es : Nat} : ∀ {ds : List D} {vs : List Value}, Rows μ es ds vs → ∀ v ∈ vs, (vcells v).length = es ∧ ∀ u ∈ vcells v, u.oneCell' = true
  | _, _, .nil, v, hv => by simp at hv
  | _, _, .cons h hn r, v, hv => by
    rcases List.mem_cons.1 hv with rfl | hv
    · exact ⟨by rw [Rep.len _ _ h.cells]; exact hn, Rep.one _ _ h.cells⟩
    · exact r.size v hv
/-- A slice's elements as a row that an append may read. -/
theorem Rep.src {es n cap : Nat} {base : Option Addr} {ds : List D} (h : RepV μ (.sl es ds) (.slice base n cap)) :
    ∃ vs, Rows μ es ds vs ∧ vs.length = n ∧ n ≤ cap ∧ ∀ a b, a ≤ b → b ≤ n → SrcAt μ (if cap = a then base else base.map (·.add (a * es))) (b - a) es ((vs.drop a).take (b - a)) := by
  have h' : Rep μ (.sl es ds) [.slice base n cap] := h
  have hcap := Rep.lens h'
  obtain ⟨b0, c0, h1, h2, h3, h4⟩ := h'
  simp only [List.cons.injEq, and_true] at h1
  have hv_ := Value.slice.inj h1
  obtain ⟨rfl, rfl, rfl⟩ := hv_
  have : ∃ vs, Rows μ es ds vs ∧ (ds = [] ∨ ∃ a0, base = some a0 ∧ CellsAt μ a0 (vs.flatMap vcells)) := by
    rcases h4 with rfl | ⟨a0, flat, g1, g2, g3⟩
    · exact ⟨[], .nil, .inl rfl⟩
    · have hv_ := RepS.rows g3 h3
      obtain ⟨vs, hr, rfl⟩ := hv_
      exact ⟨vs, hr, .inr ⟨a0, g1, g2⟩⟩
  obtain ⟨vs, hr, hc⟩ := this
  have hlen := hr.len
  refine ⟨vs, hr, hlen.symm, hcap, fun a b hab hb => ⟨by simp; omega, fun y hy => hr.size y (List.mem_of_mem_drop (List.mem_of_mem_take hy)), ?_⟩⟩
  rcases Nat.eq_or_lt_of_le hab with e | hlt
  · exact .inl (by omega)
  · right
    rcases hc with e | ⟨a0, e, hcell⟩
    · subst e; simp at hb; omega
    · subst e
      refine ⟨a0.add (a * es), by rw [if_neg (by omega)]; rfl, fun j v hj => ?_⟩
      rw [add_add]
      refine hcell _ _ ?_
      have e1 : vs.flatMap vcells = (vs.take a).flatMap vcells ++ (((vs.drop a).take (b - a)).flatMap vcells ++ ((vs.drop a).drop (b - a)).flatMap vcells) := by
        rw [← List.flatMap_append, List.take_append_drop, ← List.flatMap_append, List.take_append_drop]
      have e2 : ((vs.take a).flatMap vcells).length = a * es := by
        rw [flat_len (es := es) (vs.take a) fun y hy => (hr.size y (List.mem_of_mem_take hy)).1]
        congr 1; simp; omega
      rw [e1, List.getElem?_append_right (by omega), e2, Nat.add_sub_cancel_left, List.getElem?_append_left (List.getElem?_eq_some_iff.1 hj).1]
      exact hj
/-! ### Insertion -/
def insAt {α : Type} (l : List α) (x : α) (k : Nat) : List α := l.take k ++ ([x] ++ l.drop k)
theorem insAt_length {α : Type} (l : List α) (x : α) (k : Nat) : (insAt l x k).length = l.length + 1 := by
  have := congrArg List.length (List.take_append_drop k l)
  simp only [insAt, List.length_append, List.length_singleton] at *
  omega
/-- Where an insertion goes, seen from the right. -/
def InsPos (bs : List B) (n : Int) (k : Nat) : Prop := k ≤ bs.length ∧ (∀ c, bs[k - 1]? = some c → 0 < k → c.var ≤ n) ∧ ∀ j c, k ≤ j → bs[j]? = some c → n < c.var
theorem sub_append (a c : List B) (n : Int) : sub (a ++ c) n = (sub a n).or (sub c n) := by
  induction a with
  | nil => simp [sub]
  | cons b a ih =>
    simp only [List.cons_append, sub]
    split
    · simp
    · exact ih
theorem sub_insAt {bs : List B} {b : B} (h : ∀ c ∈ bs, c.var ≠ b.var) (k : Nat) (n : Int) : sub (insAt bs b k) n = if b.var = n then some b.to else sub bs n := by
  have e := List.take_append_drop k bs
  have e2 : sub bs n = (sub (bs.take k) n).or (sub (bs.drop k) n) := by rw [← sub_append, e]
  rw [insAt, sub_append, sub_append, e2]
  by_cases hn : b.var = n
  · have h1 : sub (bs.take k) n = none := sub_none fun c hc => by rw [← hn]; exact h c (List.mem_of_mem_take hc)
    rw [if_pos hn, h1]
    simp [sub, hn]
  · rw [if_neg hn]
    simp [sub, hn]
theorem sub_mem {bs : List B} {b : B} (h : b ∈ bs) : sub bs b.var ≠ none := by
  induction bs with
  | nil => simp at h
  | cons c bs ih =>
    rw [sub]
    split
    · simp
    · rename_i hne
      rcases List.mem_cons.1 h with e | h
      · subst e; exact absurd rfl hne
      · exact ih h
theorem l04Insert_spec {bs : List B} {b : B} {v vb : Value} (hv : RepV μ (.sl 5 ((bs.map B.bd).map Bd.d)) v) (hb : RepV μ b.bd.d vb) (hn : bs.length ≤ 1000000000) :
    Spec Tryz.prog 318 [v, vb] μ fun v μ' => ∃ k, InsPos bs b.var k ∧ RepV μ' (.sl 5 (((insAt bs b k).map B.bd).map Bd.d)) v := by
  have hv_ := Rep.sl hv
  obtain ⟨base, cap, rfl, hsl⟩ := hv_
  rw [List.length_map, List.length_map] at hsl hv ⊢
  have hv_ := Bd.invV hb
  obtain ⟨p, rfl⟩ := hv_
  have hv_ := Rep.src hv
  obtain ⟨vs, hrows, hvl, hcap, hsrc⟩ := hv_
  refine Spec.mk Tryz.func318 (by kernel_rfl) ?_
  intro r
  refine loop_intro (fun k : Nat => k ≤ bs.length ∧ ∀ (j : Nat) c, k ≤ j → bs[j]? = some c → b.var < c.var) (fun k => ⟨[(0, .val (.slice base bs.length cap)), (3, .loc 0 r 0), (5, .val (.int .i64 k))], [(0, some (.cells r [.val (.int .i64 b.bd.var), .val (.int .i64 b.bd.to.kind), .val (.int .i64 b.bd.to.num), .val (.string b.bd.to.name), .val (.slice p.1 b.bd.to.args.length p.2)] 114))], 1, μ, Mem.nil⟩) (fun k => k)
    bs.length ⟨Nat.le_refl _, fun j c hj hc => absurd (List.getElem?_eq_some_iff.1 hc).1 (by omega)⟩ (fun i => ⟨rfl, rfl⟩) ⟨⟨rfl, rfl, rfl, trivial⟩, ⟨rfl, trivial⟩, rfl, rfl⟩ ?_
  rintro k ⟨hk, hgt⟩
  refine ifd (fun h1 => ?_) (fun h1 => ?_)
  · have hv_ := at_some (l := bs) (i := k - 1) (by omega)
    obtain ⟨c, hc⟩ := hv_
    have hv_ := B.elem hsl hc
    obtain ⟨ad, q, hel, _⟩ := hv_
    refine num_eq (x := ((k - 1 : Nat) : Int)) (by rw [wrap64 (by omega) (by omega)]; omega) ?_
    refine elem_intro hel ?_
    refine ifd (fun h2 => ?_) (fun h2 => ?_)
    · refine num_eq (x := ((k - 1 : Nat) : Int)) (by rw [wrap64 (by omega) (by omega)]; omega) ⟨k - 1, ⟨by omega, fun j c' hj hc' => ?_⟩, by omega, ⟨⟨rfl, rfl, rfl, trivial⟩, ⟨rfl, trivial⟩, rfl, rfl⟩⟩
      rcases Nat.lt_or_ge j k with h3 | h3
      · obtain rfl : j = k - 1 := by omega
        rw [hc] at hc'; cases hc'; exact h2
      · exact hgt j c' h3 hc'
    · have hpos : InsPos bs b.var k := ⟨hk, fun c' hc' _ => by rw [hc] at hc'; cases hc'; exact Int.not_lt.1 h2, hgt⟩
      intro r0
      refine cut_intro 0 k rfl rfl (by omega) (by omega) ?_
      refine src_intro _ (hsrc 0 k (by omega) hk) ?_
      refine grow_intro ?_ ?_ fun b1 c1 _ => ?_
      · show (0 + _) * 64 ≤ _; simp; omega
      · exact Nat.le_trans (m := 2000000000) (by simp; omega) (by decide)
      intro r1
      refine grow_intro ?_ ?_ fun b2 c2 _ => ?_
      · show (_ + 1) * 64 ≤ _; simp; omega
      · exact Nat.le_trans (m := 2000000000) (by simp; omega) (by decide)
      refine cut_intro k bs.length rfl rfl hk (by omega) ?_
      refine src_intro _ (hsrc k bs.length hk (Nat.le_refl _)) ?_
      refine grow_intro ?_ ?_ fun b3 c3 _ => ?_
      · show (_ + _) * 64 ≤ _; simp; omega
      · exact Nat.le_trans (m := 3000000000) (by simp; omega) (by decide)
      refine ret_frz [1] fun μ' hle hno hrow => .inl ⟨k, hpos, ?_⟩
      have hr2 := ((hrows.take k).append ((Rows.one hb (Bd.d_n _)).append (hrows.drop k))).mono hle
      have e : (([] : List Value) ++ (vs.drop 0).take (k - 0) ++ [.agg #[.int .i64 b.bd.var, .int .i64 b.bd.to.kind, .int .i64 b.bd.to.num, .string b.bd.to.name, .slice p.1 b.bd.to.args.length p.2]] ++ (vs.drop k).take (bs.length - k)) = vs.take k ++ ([.agg #[.int .i64 b.bd.var, .int .i64 b.bd.to.kind, .int .i64 b.bd.to.num, .string b.bd.to.name, .slice p.1 b.bd.to.args.length p.2]] ++ vs.drop k) := by
        simp
        rw [List.take_of_length_le (by simp; omega)]
      rw [e] at hrow ⊢
      have e2 : ((insAt bs b k).map B.bd).map Bd.d = ((bs.map B.bd).map Bd.d).take k ++ ([b.bd.d] ++ ((bs.map B.bd).map Bd.d).drop k) := by simp [insAt]
      rw [e2]
      exact Rows.sl hrow hr2 (Nat.le_trans (m := 3000000000) (by simp; omega) (by decide))
  · have hpos : InsPos bs b.var k := ⟨hk, fun c' hc' h => by omega, hgt⟩
    intro r0
    refine cut_intro 0 k rfl rfl (by omega) (by omega) ?_
    refine src_intro _ (hsrc 0 k (by omega) hk) ?_
    refine grow_intro ?_ ?_ fun b1 c1 _ => ?_
    · show (0 + _) * 64 ≤ _; simp; omega
    · exact Nat.le_trans (m := 2000000000) (by simp; omega) (by decide)
    intro r1
    refine grow_intro ?_ ?_ fun b2 c2 _ => ?_
    · show (_ + 1) * 64 ≤ _; simp; omega
    · exact Nat.le_trans (m := 2000000000) (by simp; omega) (by decide)
    refine cut_intro k bs.length rfl rfl hk (by omega) ?_
    refine src_intro _ (hsrc k bs.length hk (Nat.le_refl _)) ?_
    refine grow_intro ?_ ?_ fun b3 c3 _ => ?_
    · show (_ + _) * 64 ≤ _; simp; omega
    · exact Nat.le_trans (m := 3000000000) (by simp; omega) (by decide)
    refine ret_frz [1] fun μ' hle hno hrow => .inl ⟨k, hpos, ?_⟩
    have hr2 := ((hrows.take k).append ((Rows.one hb (Bd.d_n _)).append (hrows.drop k))).mono hle
    have e : (([] : List Value) ++ (vs.drop 0).take (k - 0) ++ [.agg #[.int .i64 b.bd.var, .int .i64 b.bd.to.kind, .int .i64 b.bd.to.num, .string b.bd.to.name, .slice p.1 b.bd.to.args.length p.2]] ++ (vs.drop k).take (bs.length - k)) = vs.take k ++ ([.agg #[.int .i64 b.bd.var, .int .i64 b.bd.to.kind, .int .i64 b.bd.to.num, .string b.bd.to.name, .slice p.1 b.bd.to.args.length p.2]] ++ vs.drop k) := by
      simp
      rw [List.take_of_length_le (by simp; omega)]
    rw [e] at hrow ⊢
    have e2 : ((insAt bs b k).map B.bd).map Bd.d = ((bs.map B.bd).map Bd.d).take k ++ ([b.bd.d] ++ ((bs.map B.bd).map Bd.d).drop k) := by simp [insAt]
    rw [e2]
    exact Rows.sl hrow hr2 (Nat.le_trans (m := 3000000000) (by simp; omega) (by decide))
/-! ### Names by number -/
noncomputable def canonF (vs : List Int) (n : Int) : Option T := if n ∈ vs then some (.var (vs.idxOf n)) else none
theorem idx_at : ∀ {l : List Int} (_ : l.Nodup) {i : Nat} {n : Int}, l[i]? = some n → l.idxOf n = i
  | [], _, i, n, h => by simp at h
  | a :: l, hn, 0, n, h => by
    simp only [List.getElem?_cons_zero, Option.some.injEq] at h
    subst h; simp
  | a :: l, hn, i + 1, n, h => by
    simp only [List.getElem?_cons_succ] at h
    simp only [List.nodup_cons] at hn
    have hne : ¬ a = n := fun e => hn.1 (by subst e; exact List.mem_of_getElem? h)
    have hb : (a == n) = false := by simp [hne]
    rw [List.idxOf_cons, hb, idx_at hn.2 h]
    rfl
theorem l07Names_spec {l : List Int} {v : Value} (hv : RepV μ (.sl 1 (l.map D.i)) v) (hnd : l.Nodup) (hn : l.length ≤ 100000000) :
    Spec Tryz.prog 301 [v] μ fun v μ' => ∃ bs : List B, RepV μ' (.sl 5 ((bs.map B.bd).map Bd.d)) v ∧ ∀ n, sub bs n = canonF l n := by
  have hv_ := Rep.sl hv
  obtain ⟨base, cap, rfl, hsl⟩ := hv_
  rw [List.length_map] at hsl ⊢
  refine Spec.mkO [6] Tryz.func301 (by kernel_rfl) ?_
  intro r6 hm6 ho6
  have start : RepV μ (.sl 5 ((([] : List B).map B.bd).map Bd.d)) (.slice (some ⟨r6, 0, none⟩) 0 0) := ⟨_, _, rfl, ⟨Nat.le_refl _, Nat.zero_le _⟩, by simp, .inl rfl⟩
  refine loop_intro (fun p : Nat × List B × Value × Mem => p.1 ≤ l.length ∧ μ.Le p.2.2.2 ∧ p.2.1.length = p.1 ∧ RepV p.2.2.2 (.sl 5 ((p.2.1.map B.bd).map Bd.d)) p.2.2.1 ∧ ∀ n, sub p.2.1 n = if n ∈ l.take p.1 then some (.var (l.idxOf n)) else none)
    (fun (i, _, v, μ') => ⟨[(3, .val v), (7, .val (.slice base l.length cap)), (8, .val (.int .i64 l.length)), (9, .val (.int .i64 i))], [], 0, μ', Mem.nil.set r6 (.cells (List.toArray (([] : List Value).flatMap vcells)) 114 (0, 0))⟩) (fun p => l.length - p.1)
    (0, [], .slice (some ⟨r6, 0, none⟩) 0 0, μ) ⟨by simp, Mem.Le.refl μ, rfl, start, fun n => by simp [sub]⟩ (fun (_, _, _, _) => ⟨rfl, rfl⟩) ⟨⟨rfl, rfl, rfl, rfl, trivial⟩, trivial, rfl, rfl⟩ ?_
  rintro ⟨i, bs, v, μ'⟩ ⟨hi, hle, hbl, hrep, hsub⟩
  dsimp only at hi hle hbl hrep hsub
  refine ifd (fun h => ?_) (fun h => ?_)
  · have hv_ := at_some (l := l) (i := i) (by omega)
    obtain ⟨n, hn'⟩ := hv_
    have hv_ := Ints.elem (hsl.mono hle) hn'
    obtain ⟨ad, hel⟩ := hv_
    have hidx := idx_at hnd hn'
    refine elem_intro hel ?_
    refine call_gives (l02Var_spec _) ?_
    have hb : RepV μ' (B.mk n (.var i)).bd.d (.agg #[.int .i64 n, .int .i64 1, .int .i64 i, .string ⟨#[]⟩, .slice none 0 0]) := by
      obtain ⟨cs, e, h2⟩ : ∃ cs, varV (i : Int) = .agg (List.toArray cs) ∧ Rep μ' (T.var (i : Int)).tm.d cs := ⟨_, rfl, varV_rep (μ := μ') (i : Int) |>.cells⟩
      have e2 : cs = [.int .i64 1, .int .i64 i, .string ⟨#[]⟩, .slice none 0 0] := by
        have := congrArg vcells e
        simpa [vcells, varV] using this.symm
      subst e2
      exact ⟨_, rfl, [.int .i64 n], _, rfl, rfl, _, [], rfl, h2, rfl⟩
    have hfresh : ∀ c ∈ bs, c.var ≠ n := fun c hc e => by
      have h1 := sub_mem hc
      rw [hsub, e] at h1
      by_cases h2 : n ∈ l.take i
      · have hv_ := List.mem_iff_getElem?.1 h2
        obtain ⟨j, hj⟩ := hv_
        rw [List.getElem?_take] at hj
        split at hj
        · rename_i hji
          have := idx_at hnd hj
          omega
        · cases hj
      · rw [if_neg h2] at h1; exact h1 rfl
    refine call_plain (l04Insert_spec hrep hb (by omega)) fun v2 μ2 hle2 hR => ?_
    obtain ⟨k, _, hrep2⟩ := hR
    refine num64 (by omega) (by omega) ⟨(i + 1, insAt bs ⟨n, .var i⟩ k, v2, μ2), ⟨by dsimp only; omega, hle.trans hle2, by dsimp only; rw [insAt_length, hbl], hrep2, fun m => ?_⟩, by dsimp only; omega, ⟨⟨rfl, rfl, rfl, rfl, trivial⟩, trivial, rfl, rfl⟩⟩
    dsimp only
    rw [sub_insAt hfresh, List.take_add_one, hn', Option.toList_some]
    by_cases e : n = m
    · subst e; rw [if_pos rfl, if_pos (by simp), hidx]
    · rw [if_neg e, hsub]
      by_cases h2 : m ∈ l.take i
      · rw [if_pos h2, if_pos (by simp [h2])]
      · rw [if_neg h2, if_neg (by simp [h2]; exact fun e' => e e'.symm)]
  · obtain rfl : i = l.length := by omega
    rw [List.take_length] at hsub
    exact ret_plain ⟨bs, hrep, hsub⟩
/-- Numbers of variables lie in a range. -/
theorem T.vars_range : ∀ {x : T}, x.good → ∀ n ∈ x.vars, 0 ≤ n ∧ n ≤ 100000
  | .var n, h, m, hm => by
    simp only [T.vars, List.mem_singleton] at hm
    subst hm; exact h
  | .pair a b, h, m, hm => by
    simp only [T.vars, List.mem_append] at hm
    exact hm.elim (T.vars_range h.1 m) (T.vars_range h.2 m)
  | .nil, _, m, hm => by simp [T.vars] at hm
  | .sym _, _, m, hm => by simp [T.vars] at hm
  | .num _, _, m, hm => by simp [T.vars] at hm
theorem nodup_range {N : Nat} : ∀ {l : List Int}, l.Nodup → (∀ n ∈ l, 0 ≤ n ∧ n < N) → l.length ≤ N := by
  induction N with
  | zero =>
    intro l _ h
    cases l with
    | nil => simp
    | cons a l => have := h a (by simp); omega
  | succ N ih =>
    intro l hn h
    have h1 := ih (l := l.erase (N : Int)) (hn.erase _) fun n hm => by
      rw [hn.mem_erase_iff] at hm
      have := h n hm.2
      have h2 : n ≠ (N : Int) := hm.1
      omega
    have h2 : l.length ≤ (l.erase (N : Int)).length + 1 := by
      rw [List.length_erase]; split <;> omega
    omega
theorem ordAll_range {xs : List T} (hx : ∀ x ∈ xs, x.ok) : (ordAll [] (xs.flatMap T.vars)).length ≤ 100001 := by
  refine nodup_range (ordAll_nodup _ (by simp)) fun n hn => ?_
  rw [ordAll_mem] at hn
  rcases hn with hn | hn
  · have hv_ := List.mem_flatMap.1 hn
    obtain ⟨x, hx', hm⟩ := hv_
    have := T.vars_range (hx x hx').1 n hm
    omega
  · simp at hn
/-! ### Canonical terms -/
theorem T.subst_congr {f g : Int → Option T} : ∀ (x : T), (∀ n ∈ x.vars, f n = g n) → x.subst f = x.subst g
  | .var n, h => by simp only [T.subst]; rw [h n (by simp [T.vars])]
  | .pair a b, h => by
    simp only [T.subst]
    rw [T.subst_congr a fun n hn => h n (by simp [T.vars, hn]), T.subst_congr b fun n hn => h n (by simp [T.vars, hn])]
  | .nil, _ => rfl
  | .sym _, _ => rfl
  | .num _, _ => rfl
noncomputable def canon (xs : List T) : List T := xs.map (·.subst (canonF (ordAll [] (xs.flatMap T.vars))))
theorem spec_Canonical_spec {xs : List T} {base : Option Addr} {cap : Nat} (hsl : Sl μ 4 base xs.length ((xs.map T.tm).map Tm.d)) (hw : D.wds ((xs.map T.tm).map Tm.d)) (hx : ∀ x ∈ xs, x.ok) (hn : xs.length ≤ 10000000) :
    Spec Tryz.prog 231 [.slice base xs.length cap] μ fun v μ' => RepV μ' (.sl 4 (((canon xs).map T.tm).map Tm.d)) v := by
  refine Spec.mk Tryz.func231 (by kernel_rfl) ?_
  have hall := l02AllOk_spec (l := xs.map T.tm) (cap := cap) (by rw [List.length_map]; exact hsl) hw
  rw [List.length_map] at hall
  refine call_gives hall ?_
  refine ifnd (fun h => absurd (fun t ht => ?_) h) (fun _ => ?_)
  · have hv_ := List.mem_map.1 ht
    obtain ⟨x, hx', rfl⟩ := hv_
    exact (hx x hx').tm
  refine call_plain (spec_OrderedVars_spec hsl hw hx hn) fun v1 μ1 hle1 hR1 => ?_
  have hnd : (ordAll [] (xs.flatMap T.vars)).Nodup := ordAll_nodup _ (by simp)
  have hrange : (ordAll [] (xs.flatMap T.vars)).length ≤ 100001 := ordAll_range hx
  refine call_plain (l07Names_spec hR1 hnd (by omega)) fun v2 μ2 hle2 hR2 => ?_
  obtain ⟨bs, hbs, hsub⟩ := hR2
  have hv_ := Rep.sl hbs
  obtain ⟨nb, nc, rfl, hns⟩ := hv_
  rw [List.length_map, List.length_map] at hns ⊢
  have hfun : sub bs = canonF (ordAll [] (xs.flatMap T.vars)) := funext hsub
  have hsl2 := (hsl.mono hle1).mono hle2
  intro r13
  refine loop_intro (fun p : Nat × Option Nat × Nat × List Value × Mem => p.1 ≤ xs.length ∧ μ2.Le p.2.2.2.2 ∧ Rows p.2.2.2.2 4 ((((xs.take p.1).map (·.subst (sub bs))).map T.tm).map Tm.d) p.2.2.2.1)
    (fun (i, b, c, ys, μ') => ⟨[(3, .val (.slice nb bs.length nc)), (4, .row 0 b ys.length c), (14, .val (.slice base xs.length cap)), (15, .val (.int .i64 xs.length)), (16, .val (.int .i64 i))], [(0, some (.row b c 44 4 ys))], 1, μ', Mem.nil⟩) (fun p => xs.length - p.1)
    (0, some r13, 0, [], μ2) ⟨by simp, Mem.Le.refl _, .nil⟩ (fun (_, _, _, _, _) => ⟨rfl, rfl⟩) ⟨⟨rfl, rfl, rfl, rfl, rfl, trivial⟩, ⟨rfl, trivial⟩, rfl, rfl⟩ ?_
  rintro ⟨i, b, c, ys, μ'⟩ ⟨hi, hle, hrows⟩
  dsimp only at hi hle hrows
  have hlen := hrows.len
  simp only [List.length_map, List.length_take] at hlen
  refine ifd (fun h => ?_) (fun h => ?_)
  · have hv_ := at_some (l := xs) (i := i) (by omega)
    obtain ⟨x, hx'⟩ := hv_
    have hv_ := Tm.elem (i := i) (t := x.tm) (hsl2.mono hle) (by simp [hx'])
    obtain ⟨ad, p, hel, hto⟩ := hv_
    refine elem_intro hel ?_
    intro r
    refine call_plain (l04Put_spec x (hns.mono hle) hto) fun v3 μ3 hle3 hR3 => ?_
    refine call_plain (l02Copy_spec _ hR3) fun v4 μ4 hle4 hR4 => ?_
    have hv_ := Tm.invV hR4
    obtain ⟨q, rfl⟩ := hv_
    intro r5
    refine grow_intro ?_ ?_ fun b' c' _ => ?_
    · show (ys.length + 1) * 56 ≤ _; omega
    · exact Nat.le_trans (m := 100000000) (show ys.length + 1 ≤ _ by omega) (by decide)
    refine num64 (by omega) (by omega) ⟨(i + 1, b', c', _, μ4), ⟨by dsimp only; omega, (hle.trans hle3).trans hle4, ?_⟩, by dsimp only; omega, ⟨⟨rfl, rfl, rfl, rfl, rfl, trivial⟩, ⟨rfl, trivial⟩, rfl, rfl⟩⟩
    dsimp only
    rw [List.take_add_one, hx', Option.toList_some]
    simp only [List.map_append, List.map_cons, List.map_nil]
    exact ((hrows.mono hle3).mono hle4).append (Rows.one hR4 (Tm.d_n _))
  · obtain rfl : i = xs.length := by omega
    rw [List.take_length] at hrows
    refine ret_frz [0] fun μ' hle' hno hrow => .inl ?_
    rw [canon, ← hfun]
    exact Rows.sl hrow (hrows.mono hle') (Nat.le_trans (m := 100000000) (by omega) (by decide))
end
end Go.Vx

/- Plain: lists in strict order. -/
namespace Go.Vx
open Go.Proofs Classical
section
variable {α : Type} {c : α → α → Int}
def Asc3 (c : α → α → Int) (l : List α) : Prop := l.Pairwise fun a b => c a b < 0
theorem Ord3.irrefl (h : Ord3 c) (x : α) : ¬ c x x < 0 := by have := (h.zero x x).2 rfl; omega
theorem Asc3.nodup (h : Ord3 c) {l : List α} (hl : Asc3 c l) : l.Nodup := hl.imp fun {a b} k e => by subst e; exact h.irrefl _ k
end
end Go.Vx

/- Contracts: the laws' own functions on values of the type Fact: sizes, copies, equality, marks; what an argument reads. (By gen_types.py.) -/
namespace Go.Vx
open Go.Proofs Classical
structure Fc where
  rel : ByteArray
  args : List Tm
def Fc.d (x : Fc) : D := .st [.s x.rel, .sl 4 (x.args.map Tm.d)]
theorem Fc.d_eq (x : Fc) : x.d = .st [.s x.rel, .sl 4 (x.args.map Tm.d)] := rfl
theorem Fc.d_n (x : Fc) : x.d.n = 2 := by
  rw [Fc.d_eq]
  simp only [D.n, D.ns]
abbrev Fc.P := (Option Addr × Nat)
/-- The cells of a value. -/
def Fc.cs (x : Fc) (p : Fc.P) : List Value := [.string x.rel, .slice p.1 x.args.length p.2]
section
variable {μ : Mem}
def Fc.At (μ : Mem) (x : Fc) (p : Fc.P) : Prop := Sl μ 4 p.1 x.args.length (x.args.map Tm.d)
theorem Fc.invA {x : Fc} {cs : List Value} (h : Rep μ x.d cs) : ∃ p : Fc.P, cs = x.cs p ∧ Fc.At μ x p := by
  rw [Fc.d_eq] at h
  obtain ⟨a0, t0, rfl, h0, h⟩ := h
  have h0 : a0 = [.string x.rel] := h0
  subst h0
  obtain ⟨a1, t1, rfl, h1, h⟩ := h
  have hv_ := one_of (Rep.len _ _ h1)
  obtain ⟨v1, rfl⟩ := hv_
  have hv_ := Rep.sl h1
  obtain ⟨b1, c1, rfl, s1⟩ := hv_
  rw [List.length_map] at s1
  obtain rfl : t1 = [] := h
  exact ⟨(b1, c1), by simp [Fc.cs], s1⟩
theorem Fc.rep {x : Fc} {cs : List Value} (h : Rep μ x.d cs) : RepV μ x.d (.agg cs.toArray) := by
  rw [Fc.d_eq] at h ⊢; exact ⟨cs, rfl, h⟩
theorem Fc.invR {x : Fc} {cs : List Value} (h : Rep μ x.d cs) : ∃ p : Fc.P, cs = x.cs p ∧ RepV μ x.d (.agg (x.cs p).toArray) := by
  have hv_ := Fc.invA h
  obtain ⟨p, e, _⟩ := hv_
  subst e
  exact ⟨p, rfl, Fc.rep h⟩
theorem Fc.inv {x : Fc} {v : Value} (h : RepV μ x.d v) : ∃ p : Fc.P, v = .agg #[.string x.rel, .slice p.1 x.args.length p.2] ∧ Fc.At μ x p := by
  have h2 : ∃ cs, v = .agg (List.toArray cs) ∧ Rep μ x.d cs := by rw [Fc.d_eq] at h ⊢; exact h
  obtain ⟨cs, rfl, h3⟩ := h2
  have hv_ := Fc.invA h3
  obtain ⟨p, rfl, hA⟩ := hv_
  exact ⟨p, rfl, hA⟩
theorem Fc.invV {x : Fc} {v : Value} (h : RepV μ x.d v) : ∃ p : Fc.P, v = .agg #[.string x.rel, .slice p.1 x.args.length p.2] := by
  have hv_ := Fc.inv h
  obtain ⟨p, h, _⟩ := hv_
  exact ⟨p, h⟩
theorem Fc.elemA {l : List Fc} {base : Option Addr} {n : Nat} (h : Sl μ 2 base n (l.map Fc.d)) {i : Nat} {x : Fc} (hx : l[i]? = some x) : ∃ ad, ∃ p : Fc.P, ElemAt μ base n 2 i ad (x.cs p) ∧ RepV μ x.d (.agg (x.cs p).toArray) ∧ Fc.At μ x p := by
  have hv_ := h.get i x.d (by simp [hx])
  obtain ⟨ad, cs, h1, h2⟩ := hv_
  have hv_ := Fc.invA h2
  obtain ⟨p, rfl, hA⟩ := hv_
  exact ⟨ad, p, h1, Fc.rep h2, hA⟩
theorem Fc.elem {l : List Fc} {base : Option Addr} {n : Nat} (h : Sl μ 2 base n (l.map Fc.d)) {i : Nat} {x : Fc} (hx : l[i]? = some x) : ∃ ad, ∃ p : Fc.P, ElemAt μ base n 2 i ad (x.cs p) ∧ RepV μ x.d (.agg (x.cs p).toArray) := by
  have hv_ := Fc.elemA h hx
  obtain ⟨ad, p, h1, h2, _⟩ := hv_
  exact ⟨ad, p, h1, h2⟩
theorem Fc.sz_eq (x : Fc) : x.d.sz = x.rel.size + (x.args.length + D.szs (x.args.map Tm.d)) := by
  rw [Fc.d_eq]
  simp [D.sz, D.szs]
end
end Go.Vx

/- Contracts: rows of numbers in owned memory that are sorted: insertion. -/
namespace Go.Vx
open Go.Proofs Classical
open Go.Sort
/-! ### A row of numbers -/
def RowI (h0 : Mem) (r : Nat) (ty : TypeId) (rest : List Value) (d : Array Int) : Mem := h0.set r (.cells (List.toArray ([] ++ (d.toList.map (Value.int .i64) ++ rest))) ty (0, 0))
theorem arr_at {d : Array Int} {k : Nat} (h : k < d.size) : d.toList[k]? = some d[k]! := by
  rw [Array.getElem?_toList, getElem!_pos d k h, Array.getElem?_eq_getElem h]
section
variable {μ h0 : Mem} {r : Nat} {ty : TypeId} {rest : List Value} {d : Array Int}
theorem idxI {n : Nat} {i : Int} {K : Addr → List Value → Prop} {K' : Addr → Prop} (k : Nat) (e : i = k) (hk : k < n) (h : K' ⟨r, k, none⟩) : elemVC μ (some ⟨r, 0, none⟩) n 1 i K K' := by
  subst e
  refine ptr_intro ⟨r, 0, none⟩ rfl (by omega) (by omega) ?_
  have : (⟨r, 0, none⟩ : Addr).add ((k : Int).toNat * 1) = ⟨r, k, none⟩ := by rw [Addr.add_lit']; simp
  rw [this]; exact h
theorem rdI {k : Nat} {K : List Value → Prop} (hk : k < d.size) (h : K [.int .i64 d[k]!]) : extVC μ (RowI h0 r ty rest d) ⟨r, k, none⟩ 1 K :=
  own_at (pre := []) (j := k) (by simp) (by rw [List.getElem?_map, arr_at hk]; rfl) h
theorem wrI {k : Nat} {v : Int} {K : Mem → Prop} (hk : k < d.size) (h : K (RowI h0 r ty rest (d.setIfInBounds k v))) : stoVC (RowI h0 r ty rest d) ⟨r, k, none⟩ [.int .i64 v] K := by
  refine sto_at (pre := []) (j := k) (by simp) (by simpa using hk) ?_
  have e : (d.toList.map (Value.int .i64)).set k (.int .i64 v) = (d.setIfInBounds k v).toList.map (Value.int .i64) := by
    rw [Array.toList_setIfInBounds, List.map_set]
  rw [e]; exact h
theorem swp_size (d : Array Int) (i j : Nat) : (swp d i j).size = d.size := by simp [swp]
theorem isNaN_spec (x : Int) : Gives Tryz.prog 358 [.int .i64 x] μ (.bool false) := by
  refine Spec.mk Tryz.func358 (by kernel_rfl) ?_
  exact ret_gives (by simp) rfl
theorem Less_spec (x y : Int) : Gives Tryz.prog 350 [.int .i64 x, .int .i64 y] μ (.bool (ltInt x y)) := by
  refine Spec.mk Tryz.func350 (by kernel_rfl) ?_
  refine call_gives (isNaN_spec x) ?_
  refine if_intro (fun h => nomatch h) (fun _ => ?_)
  exact ret_gives rfl rfl
theorem insertionSort_spec {n a b : Nat} {cap : Nat} (hd : d.size = n) (ha : a ≤ b) (hb : b ≤ n) (hn : n ≤ 1000000000000) :
    SpecH Tryz.prog 344 [.slice (some ⟨r, 0, none⟩) n cap, .int .i64 a, .int .i64 b] μ (RowI h0 r ty rest d) fun v μ' h' => v = .tuple #[] ∧ μ' = μ ∧ h' = RowI h0 r ty rest (insertionSort ltInt d a b) := by
  refine SpecH.mk [] Tryz.func344 (by kernel_rfl) ?_
  rw [insertionSort]
  generalize hD : insOuter ltInt a b (a + 1) d = D
  refine num_eq (x := ((a + 1 : Nat) : Int)) (by rw [wrap64 (by omega) (by omega)]; omega) ?_
  refine loop_intro (fun p : Nat × Array Int => a + 1 ≤ p.1 ∧ p.1 ≤ max b (a + 1) ∧ p.2.size = n ∧ insOuter ltInt a b p.1 p.2 = D)
    (fun (i, d) => ⟨[(0, .val (.slice (some ⟨r, 0, none⟩) n cap)), (1, .val (.int .i64 a)), (2, .val (.int .i64 b)), (6, .val (.int .i64 i))], [], 0, μ, RowI h0 r ty rest d⟩) (fun p => b - p.1)
    (a + 1, d) ⟨by omega, by omega, hd, hD⟩ (fun (_, _) => ⟨rfl, rfl⟩) ⟨⟨rfl, rfl, rfl, rfl, trivial⟩, trivial, rfl, rfl⟩ ?_
  rintro ⟨i, d1⟩ ⟨hi1, hi2, hs, hJ⟩
  dsimp only at hi1 hi2 hs hJ
  rw [insOuter] at hJ
  refine ifd (fun h => ?_) (fun h => ?_)
  · rw [if_pos (by omega)] at hJ
    refine loop_intro (fun p : Nat × Array Int => p.1 < n ∧ p.2.size = n ∧ insInner ltInt a p.1 p.2 = insInner ltInt a i d1)
      (fun (j, d) => ⟨[(0, .val (.slice (some ⟨r, 0, none⟩) n cap)), (1, .val (.int .i64 a)), (2, .val (.int .i64 b)), (6, .val (.int .i64 i)), (7, .val (.int .i64 j))], [], 0, μ, RowI h0 r ty rest d⟩) (fun p => p.1)
      (i, d1) ⟨by omega, hs, rfl⟩ (fun (_, _) => ⟨rfl, rfl⟩) ⟨⟨rfl, rfl, rfl, rfl, rfl, trivial⟩, trivial, rfl, rfl⟩ ?_
    rintro ⟨j, d2⟩ ⟨hj, hs2, hJ2⟩
    dsimp only at hj hs2 hJ2
    refine ifd (fun hja => ?_) (fun hja => ?_)
    · obtain ⟨j, rfl⟩ : ∃ k, j = k + 1 := ⟨j - 1, by omega⟩
      rw [insInner] at hJ2
      refine idxI (j + 1) rfl (by omega) ?_
      refine rdI (by omega) ?_
      refine num_eq (x := ((j : Nat) : Int)) (by rw [wrap64 (by omega) (by omega)]; omega) ?_
      refine idxI j rfl (by omega) ?_
      refine rdI (by omega) ?_
      refine call_gives (Less_spec _ _) ?_
      have g : decide (j + 1 > a) = true := decide_eq_true (by omega)
      refine if_intro (fun hl => ?_) (fun hl => ?_)
      · rw [g, hl, Bool.and_self, if_pos rfl] at hJ2
        refine num_eq (x := ((j : Nat) : Int)) (by rw [wrap64 (by omega) (by omega)]; omega) ?_
        refine num_eq (x := ((j : Nat) : Int)) (by rw [wrap64 (by omega) (by omega)]; omega) ?_
        refine idxI j rfl (by omega) ?_
        refine rdI (by omega) ?_
        refine idxI (j + 1) rfl (by omega) ?_
        refine rdI (by omega) ?_
        refine idxI (j + 1) rfl (by omega) ?_
        refine wrI (by omega) ?_
        refine idxI j rfl (by omega) ?_
        refine wrI (by simp; omega) ?_
        refine num_eq (x := ((j : Nat) : Int)) (by rw [wrap64 (by omega) (by omega)]; omega) ?_
        exact ⟨(j, swp d2 (j + 1) j), ⟨by dsimp only; omega, by dsimp only; rw [swp_size]; exact hs2, hJ2⟩, by dsimp only; omega, ⟨⟨rfl, rfl, rfl, rfl, rfl, trivial⟩, trivial, rfl, rfl⟩⟩
      · rw [hl, Bool.and_false, if_neg (by simp)] at hJ2
        exact num64 (by omega) (by omega) ⟨(i + 1, d2), ⟨by dsimp only; omega, by dsimp only; omega, hs2, by dsimp only; rw [hJ2]; exact hJ⟩, by dsimp only; omega, ⟨⟨rfl, rfl, rfl, rfl, trivial⟩, trivial, rfl, rfl⟩⟩
    · have hJ3 : insInner ltInt a j d2 = d2 := by
        cases j with
        | zero => rfl
        | succ j => rw [insInner, if_neg]; simp; omega
      rw [hJ3] at hJ2
      exact num64 (by omega) (by omega) ⟨(i + 1, d2), ⟨by dsimp only; omega, by dsimp only; omega, hs2, by dsimp only; rw [hJ2]; exact hJ⟩, by dsimp only; omega, ⟨⟨rfl, rfl, rfl, rfl, trivial⟩, trivial, rfl, rfl⟩⟩
  · rw [if_neg (by omega)] at hJ
    exact ret_plain ⟨rfl, rfl, by rw [hJ]⟩
end
end Go.Vx

/- Contracts: rows of numbers turned round, and sorted by a heap. -/
namespace Go.Vx
open Go.Proofs Classical
open Go.Sort
section
variable {μ h0 : Mem} {r : Nat} {ty : TypeId} {rest : List Value} {d : Array Int}
theorem reverseRange_spec {n a b : Nat} {cap : Nat} (hd : d.size = n) (hb1 : 1 ≤ b) (ha : a ≤ b) (hb : b ≤ n) (hn : n ≤ 1000000000000) :
    SpecH Tryz.prog 348 [.slice (some ⟨r, 0, none⟩) n cap, .int .i64 a, .int .i64 b] μ (RowI h0 r ty rest d) fun v μ' h' => v = .tuple #[] ∧ μ' = μ ∧ h' = RowI h0 r ty rest (reverseRange d a b) := by
  refine SpecH.mk [] Tryz.func348 (by kernel_rfl) ?_
  rw [reverseRange]
  generalize hD : reverseLoop a (b - 1) d = D
  refine num_eq (x := ((b - 1 : Nat) : Int)) (by rw [wrap64 (by omega) (by omega)]; omega) ?_
  refine loop_intro (fun p : Nat × Nat × Array Int => p.2.1 < n ∧ p.1 ≤ n ∧ p.2.2.size = n ∧ reverseLoop p.1 p.2.1 p.2.2 = D)
    (fun (i, j, d) => ⟨[(0, .val (.slice (some ⟨r, 0, none⟩) n cap)), (6, .val (.int .i64 i)), (7, .val (.int .i64 j))], [], 0, μ, RowI h0 r ty rest d⟩) (fun p => p.2.1)
    (a, b - 1, d) ⟨by dsimp only; omega, by dsimp only; omega, hd, hD⟩ (fun (_, _, _) => ⟨rfl, rfl⟩) ⟨⟨rfl, rfl, rfl, trivial⟩, trivial, rfl, rfl⟩ ?_
  rintro ⟨i, j, d1⟩ ⟨hj, hi, hs, hJ⟩
  dsimp only at hj hi hs hJ
  rw [reverseLoop] at hJ
  refine ifd (fun h => ?_) (fun h => ?_)
  · rw [if_pos (by omega)] at hJ
    refine idxI (j) (by omega) (by omega) ?_
    refine rdI (by omega) ?_
    refine idxI (i) (by omega) (by omega) ?_
    refine rdI (by omega) ?_
    refine idxI (i) (by omega) (by omega) ?_
    refine wrI (by omega) ?_
    refine idxI (j) (by omega) (by omega) ?_
    refine wrI (by simp; omega) ?_
    refine num_eq (x := ((i + 1 : Nat) : Int)) (by rw [wrap64 (by omega) (by omega)]; omega) ?_
    refine num_eq (x := ((j - 1 : Nat) : Int)) (by rw [wrap64 (by omega) (by omega)]; omega) ?_
    exact ⟨(i + 1, j - 1, swp d1 i j), ⟨by dsimp only; omega, by dsimp only; omega, by dsimp only; rw [swp_size]; exact hs, hJ⟩, by dsimp only; omega, ⟨⟨rfl, rfl, rfl, trivial⟩, trivial, rfl, rfl⟩⟩
  · rw [if_neg (by omega)] at hJ
    exact ret_plain ⟨rfl, rfl, by rw [hJ]⟩
theorem siftDown_spec {n lo hi first : Nat} {cap : Nat} (hd : d.size = n) (hb : first + hi ≤ n) (hl : lo ≤ n) (hn : n ≤ 1000000000000) :
    SpecH Tryz.prog 353 [.slice (some ⟨r, 0, none⟩) n cap, .int .i64 lo, .int .i64 hi, .int .i64 first] μ (RowI h0 r ty rest d) fun v μ' h' => v = .tuple #[] ∧ μ' = μ ∧ h' = RowI h0 r ty rest (siftDown ltInt hi first lo d) := by
  refine SpecH.mk [] Tryz.func353 (by kernel_rfl) ?_
  generalize hD : siftDown ltInt hi first lo d = D
  refine loop_intro (fun p : Nat × Array Int => p.1 ≤ n ∧ p.2.size = n ∧ siftDown ltInt hi first p.1 p.2 = D)
    (fun (i, d) => ⟨[(0, .val (.slice (some ⟨r, 0, none⟩) n cap)), (2, .val (.int .i64 hi)), (3, .val (.int .i64 first)), (8, .val (.int .i64 i))], [], 0, μ, RowI h0 r ty rest d⟩) (fun p => hi - p.1)
    (lo, d) ⟨hl, hd, hD⟩ (fun (_, _) => ⟨rfl, rfl⟩) ⟨⟨rfl, rfl, rfl, rfl, trivial⟩, trivial, rfl, rfl⟩ ?_
  rintro ⟨i, d1⟩ ⟨hi1, hs, hJ⟩
  dsimp only at hi1 hs hJ
  rw [siftDown] at hJ
  refine num_eq (x := ((2 * i : Nat) : Int)) (by rw [wrap64 (by omega) (by omega)]; omega) ?_
  refine num_eq (x := ((2 * i + 1 : Nat) : Int)) (by rw [wrap64 (by omega) (by omega)]; omega) ?_
  refine ifd (fun h => ?_) (fun h => ?_)
  · rw [dif_pos (by omega)] at hJ
    exact ret_plain ⟨rfl, rfl, by rw [hJ]⟩
  rw [dif_neg (by omega)] at hJ
  refine num_eq (x := ((2 * i + 1 + 1 : Nat) : Int)) (by rw [wrap64 (by omega) (by omega)]; omega) ?_
  refine ifd (fun h2 => ?_) (fun h2 => ?_)
  · refine num_eq (x := ((first + (2 * i + 1) : Nat) : Int)) (by rw [wrap64 (by omega) (by omega)]; omega) ?_
    refine idxI (first + (2 * i + 1)) (by omega) (by omega) ?_
    refine rdI (by omega) ?_
    refine num_eq (x := ((first + (2 * i + 1) : Nat) : Int)) (by rw [wrap64 (by omega) (by omega)]; omega) ?_
    refine num_eq (x := ((first + (2 * i + 1) + 1 : Nat) : Int)) (by rw [wrap64 (by omega) (by omega)]; omega) ?_
    refine idxI (first + (2 * i + 1) + 1) (by omega) (by omega) ?_
    refine rdI (by omega) ?_
    refine call_gives (Less_spec _ _) ?_
    have g : decide (2 * i + 1 + 1 < hi) = true := decide_eq_true (by omega)
    refine if_intro (fun hl => ?_) (fun hl => ?_)
    · rw [g, hl, Bool.and_self, if_pos rfl] at hJ
      refine num_eq (x := ((2 * i + 2 : Nat) : Int)) (by rw [wrap64 (by omega) (by omega)]; omega) ?_
      refine num_eq (x := ((first + i : Nat) : Int)) (by rw [wrap64 (by omega) (by omega)]; omega) ?_
      refine idxI (first + i) (by omega) (by omega) ?_
      refine rdI (by omega) ?_
      refine num_eq (x := ((first + (2 * i + 2) : Nat) : Int)) (by rw [wrap64 (by omega) (by omega)]; omega) ?_
      refine idxI (first + (2 * i + 2)) (by omega) (by omega) ?_
      refine rdI (by omega) ?_
      refine call_gives (Less_spec _ _) ?_
      refine if_intro (fun hl => ?_) (fun hl => ?_)
      · rw [if_pos (by simpa using hl)] at hJ
        exact ret_plain ⟨rfl, rfl, by rw [hJ]⟩
      · rw [if_neg (by simpa using hl)] at hJ
        try rw [dif_pos (by omega)] at hJ
        refine num_eq (x := ((first + i : Nat) : Int)) (by rw [wrap64 (by omega) (by omega)]; omega) ?_
        refine num_eq (x := ((first + (2 * i + 2) : Nat) : Int)) (by rw [wrap64 (by omega) (by omega)]; omega) ?_
        refine num_eq (x := ((first + (2 * i + 2) : Nat) : Int)) (by rw [wrap64 (by omega) (by omega)]; omega) ?_
        refine idxI (first + (2 * i + 2)) (by omega) (by omega) ?_
        refine rdI (by omega) ?_
        refine num_eq (x := ((first + i : Nat) : Int)) (by rw [wrap64 (by omega) (by omega)]; omega) ?_
        refine idxI (first + i) (by omega) (by omega) ?_
        refine rdI (by omega) ?_
        refine idxI (first + i) (by omega) (by omega) ?_
        refine wrI (by omega) ?_
        refine idxI (first + (2 * i + 2)) (by omega) (by omega) ?_
        refine wrI (by simp; omega) ?_
        exact ⟨(2 * i + 2, swp d1 (first + i) (first + (2 * i + 2))), ⟨by dsimp only; omega, by dsimp only; rw [swp_size]; exact hs, hJ⟩, by dsimp only; omega, ⟨⟨rfl, rfl, rfl, rfl, trivial⟩, trivial, rfl, rfl⟩⟩
    · rw [hl, Bool.and_false, if_neg (by simp)] at hJ
      refine num_eq (x := ((first + i : Nat) : Int)) (by rw [wrap64 (by omega) (by omega)]; omega) ?_
      refine idxI (first + i) (by omega) (by omega) ?_
      refine rdI (by omega) ?_
      refine num_eq (x := ((first + (2 * i + 1) : Nat) : Int)) (by rw [wrap64 (by omega) (by omega)]; omega) ?_
      refine idxI (first + (2 * i + 1)) (by omega) (by omega) ?_
      refine rdI (by omega) ?_
      refine call_gives (Less_spec _ _) ?_
      refine if_intro (fun hl => ?_) (fun hl => ?_)
      · rw [if_pos (by simpa using hl)] at hJ
        exact ret_plain ⟨rfl, rfl, by rw [hJ]⟩
      · rw [if_neg (by simpa using hl)] at hJ
        try rw [dif_pos (by omega)] at hJ
        refine num_eq (x := ((first + i : Nat) : Int)) (by rw [wrap64 (by omega) (by omega)]; omega) ?_
        refine num_eq (x := ((first + (2 * i + 1) : Nat) : Int)) (by rw [wrap64 (by omega) (by omega)]; omega) ?_
        refine num_eq (x := ((first + (2 * i + 1) : Nat) : Int)) (by rw [wrap64 (by omega) (by omega)]; omega) ?_
        refine idxI (first + (2 * i + 1)) (by omega) (by omega) ?_
        refine rdI (by omega) ?_
        refine num_eq (x := ((first + i : Nat) : Int)) (by rw [wrap64 (by omega) (by omega)]; omega) ?_
        refine idxI (first + i) (by omega) (by omega) ?_
        refine rdI (by omega) ?_
        refine idxI (first + i) (by omega) (by omega) ?_
        refine wrI (by omega) ?_
        refine idxI (first + (2 * i + 1)) (by omega) (by omega) ?_
        refine wrI (by simp; omega) ?_
        exact ⟨(2 * i + 1, swp d1 (first + i) (first + (2 * i + 1))), ⟨by dsimp only; omega, by dsimp only; rw [swp_size]; exact hs, hJ⟩, by dsimp only; omega, ⟨⟨rfl, rfl, rfl, rfl, trivial⟩, trivial, rfl, rfl⟩⟩
  · have g : decide (2 * i + 1 + 1 < hi) = false := decide_eq_false (by omega)
    rw [g, Bool.false_and, if_neg (by simp)] at hJ
    refine num_eq (x := ((first + i : Nat) : Int)) (by rw [wrap64 (by omega) (by omega)]; omega) ?_
    refine idxI (first + i) (by omega) (by omega) ?_
    refine rdI (by omega) ?_
    refine num_eq (x := ((first + (2 * i + 1) : Nat) : Int)) (by rw [wrap64 (by omega) (by omega)]; omega) ?_
    refine idxI (first + (2 * i + 1)) (by omega) (by omega) ?_
    refine rdI (by omega) ?_
    refine call_gives (Less_spec _ _) ?_
    refine if_intro (fun hl => ?_) (fun hl => ?_)
    · rw [if_pos (by simpa using hl)] at hJ
      exact ret_plain ⟨rfl, rfl, by rw [hJ]⟩
    · rw [if_neg (by simpa using hl)] at hJ
      try rw [dif_pos (by omega)] at hJ
      refine num_eq (x := ((first + i : Nat) : Int)) (by rw [wrap64 (by omega) (by omega)]; omega) ?_
      refine num_eq (x := ((first + (2 * i + 1) : Nat) : Int)) (by rw [wrap64 (by omega) (by omega)]; omega) ?_
      refine num_eq (x := ((first + (2 * i + 1) : Nat) : Int)) (by rw [wrap64 (by omega) (by omega)]; omega) ?_
      refine idxI (first + (2 * i + 1)) (by omega) (by omega) ?_
      refine rdI (by omega) ?_
      refine num_eq (x := ((first + i : Nat) : Int)) (by rw [wrap64 (by omega) (by omega)]; omega) ?_
      refine idxI (first + i) (by omega) (by omega) ?_
      refine rdI (by omega) ?_
      refine idxI (first + i) (by omega) (by omega) ?_
      refine wrI (by omega) ?_
      refine idxI (first + (2 * i + 1)) (by omega) (by omega) ?_
      refine wrI (by simp; omega) ?_
      exact ⟨(2 * i + 1, swp d1 (first + i) (first + (2 * i + 1))), ⟨by dsimp only; omega, by dsimp only; rw [swp_size]; exact hs, hJ⟩, by dsimp only; omega, ⟨⟨rfl, rfl, rfl, rfl, trivial⟩, trivial, rfl, rfl⟩⟩
theorem siftDown_size (hi first : Nat) : ∀ (m root : Nat) (d : Array Int), hi - root ≤ m → (siftDown ltInt hi first root d).size = d.size := by
  intro m
  induction m with
  | zero =>
    intro root d h
    rw [siftDown, dif_pos (by omega)]
  | succ m ih =>
    intro root d h
    rw [siftDown]
    repeat' split
    all_goals first
      | rfl
      | (rw [ih _ _ (by omega), Go.Sort.swp_size])
theorem heapSort_spec {n a b : Nat} {cap : Nat} (hd : d.size = n) (ha : a < b) (hb : b ≤ n) (hn : n ≤ 1000000000000) :
    SpecH Tryz.prog 345 [.slice (some ⟨r, 0, none⟩) n cap, .int .i64 a, .int .i64 b] μ (RowI h0 r ty rest d) fun v μ' h' => v = .tuple #[] ∧ μ' = μ ∧ h' = RowI h0 r ty rest (heapSort ltInt d a b) := by
  refine SpecH.mk [] Tryz.func345 (by kernel_rfl) ?_
  rw [heapSort]
  generalize hD1 : heapBuild ltInt (b - a) a ((b - a - 1) / 2 + 1) d = D1
  generalize hD : heapPop ltInt a (b - a) D1 = D
  refine num_eq (x := ((b - a : Nat) : Int)) (by rw [wrap64 (by omega) (by omega)]; omega) ?_
  refine num_eq (x := ((b - a - 1 : Nat) : Int)) (by rw [wrap64 (by omega) (by omega)]; omega) ?_
  refine need_intro (by decide) ?_
  refine num_eq (x := (((b - a - 1) / 2 + 1 : Nat) : Int) - 1) (by rw [Int.tdiv_eq_ediv_of_nonneg (by omega), wrap64 (by omega) (by omega)]; omega) ?_
  refine loop_intro (fun p : Nat × Array Int => p.1 ≤ b - a ∧ p.2.size = n ∧ heapBuild ltInt (b - a) a p.1 p.2 = D1)
    (fun (k, d) => ⟨[(0, .val (.slice (some ⟨r, 0, none⟩) n cap)), (6, .val (.int .i64 a)), (7, .val (.int .i64 0)), (8, .val (.int .i64 (b - a : Nat))), (9, .val (.int .i64 ((k : Int) - 1)))], [], 0, μ, RowI h0 r ty rest d⟩) (fun p => p.1)
    ((b - a - 1) / 2 + 1, d) ⟨by dsimp only; omega, hd, hD1⟩ (fun (_, _) => ⟨rfl, rfl⟩) ⟨⟨rfl, rfl, rfl, rfl, rfl, trivial⟩, trivial, rfl, rfl⟩ ?_
  rintro ⟨k, d1⟩ ⟨hk, hs, hJ⟩
  dsimp only at hk hs hJ
  refine ifd (fun h => ?_) (fun h => ?_)
  · obtain ⟨k, rfl⟩ : ∃ m, k = m + 1 := ⟨k - 1, by omega⟩
    rw [heapBuild] at hJ
    have e : (((k + 1 : Nat) : Int) - 1) = (k : Nat) := by omega
    rw [e]
    refine call_own (siftDown_spec (lo := k) (hi := b - a) (first := a) hs (by omega) (by omega) hn) fun v μ' h' hle hap hR => ?_
    obtain ⟨rfl, e2, rfl⟩ := hR
    obtain rfl := e2.symm
    refine num_eq (x := (k : Int) - 1) (by rw [wrap64 (by omega) (by omega)]) ?_
    exact ⟨(k, siftDown ltInt (b - a) a k d1), ⟨by dsimp only; omega, by dsimp only; rw [siftDown_size _ _ _ _ _ (Nat.le_refl _)]; exact hs, hJ⟩, by dsimp only; omega, ⟨⟨rfl, rfl, rfl, rfl, rfl, trivial⟩, trivial, rfl, rfl⟩⟩
  obtain rfl : k = 0 := by omega
  have hJ : d1 = D1 := hJ
  subst hJ
  refine num_eq (x := ((b - a : Nat) : Int) - 1) (by rw [wrap64 (by omega) (by omega)]) ?_
  refine loop_intro (fun p : Nat × Array Int => p.1 ≤ b - a ∧ p.2.size = n ∧ heapPop ltInt a p.1 p.2 = D)
    (fun (k, d) => ⟨[(0, .val (.slice (some ⟨r, 0, none⟩) n cap)), (6, .val (.int .i64 a)), (7, .val (.int .i64 0)), (10, .val (.int .i64 ((k : Int) - 1)))], [], 0, μ, RowI h0 r ty rest d⟩) (fun p => p.1)
    (b - a, d1) ⟨by dsimp only; omega, hs, hD⟩ (fun (_, _) => ⟨rfl, rfl⟩) ⟨⟨rfl, rfl, rfl, rfl, trivial⟩, trivial, rfl, rfl⟩ ?_
  rintro ⟨k, d2⟩ ⟨hk, hs2, hJ⟩
  dsimp only at hk hs2 hJ
  refine ifd (fun h => ?_) (fun h => ?_)
  · obtain ⟨k, rfl⟩ : ∃ m, k = m + 1 := ⟨k - 1, by omega⟩
    rw [heapPop] at hJ
    have e : (((k + 1 : Nat) : Int) - 1) = (k : Nat) := by omega
    rw [e]
    refine num_eq (x := ((a + k : Nat) : Int)) (by rw [wrap64 (by omega) (by omega)]; omega) ?_
    refine num_eq (x := ((a + k : Nat) : Int)) (by rw [wrap64 (by omega) (by omega)]; omega) ?_
    refine idxI (a + k) (by omega) (by omega) ?_
    refine rdI (by omega) ?_
    refine idxI (a) (by omega) (by omega) ?_
    refine rdI (by omega) ?_
    refine idxI (a) (by omega) (by omega) ?_
    refine wrI (by omega) ?_
    refine idxI (a + k) (by omega) (by omega) ?_
    refine wrI (by simp; omega) ?_
    refine call_own (siftDown_spec (d := swp d2 a (a + k)) (lo := 0) (hi := k) (first := a) ((Go.Sort.swp_size _ _ _).trans hs2) (by omega) (by omega) hn) fun v μ' h' hle hap hR => ?_
    obtain ⟨rfl, e2, rfl⟩ := hR
    obtain rfl := e2.symm
    refine num_eq (x := (k : Int) - 1) (by rw [wrap64 (by omega) (by omega)]) ?_
    exact ⟨(k, _), ⟨by dsimp only; omega, by dsimp only; rw [siftDown_size _ _ _ _ _ (Nat.le_refl _), Go.Sort.swp_size]; exact hs2, hJ⟩, by dsimp only; omega, ⟨⟨rfl, rfl, rfl, rfl, trivial⟩, trivial, rfl, rfl⟩⟩
  obtain rfl : k = 0 := by omega
  have hJ : d2 = D := hJ
  subst hJ
  exact ret_plain ⟨rfl, rfl, rfl⟩
end
end Go.Vx

/- Contracts: the choice of a pivot. -/
namespace Go.Vx
open Go.Proofs Classical
open Go.Sort
/-- A row of numbers beside a counter. -/
def RowS (h0 : Mem) (r : Nat) (ty : TypeId) (rest : List Value) (d : Array Int) (rs : Nat) (s : Int) : Mem := RowI (h0.set rs (.cells #[.int .i64 s] 3 (0, 0))) r ty rest d
section
variable {μ h0 : Mem} {r rs : Nat} {ty : TypeId} {rest : List Value} {d : Array Int} {s : Int}
theorem RowS.at (hne : rs ≠ r) : RowS h0 r ty rest d rs s rs = some (.cells #[.int .i64 s] 3 (0, 0)) := by
  rw [RowS, RowI, Mem.set_ne hne, Mem.set_at]
theorem rdS {K : List Value → Prop} (hne : rs ≠ r) (h : K [.int .i64 s]) : extVC μ (RowS h0 r ty rest d rs s) ⟨rs, 0, none⟩ 1 K := own_intro _ rfl (box_at (RowS.at hne)) h
theorem Mem.set_comm {m : Mem} {a b : Nat} {x y : Obj} (h : a ≠ b) : (m.set a x).set b y = (m.set b y).set a x := by
  funext k
  simp only [Mem.set_get]
  by_cases h1 : k = b
  · subst h1; rw [if_pos rfl, if_neg (fun e => h e.symm), if_pos rfl]
  · rw [if_neg h1]
    by_cases h2 : k = a
    · rw [if_pos h2, if_pos h2]
    · rw [if_neg h2, if_neg h2, if_neg h1]
theorem wrS {v : Int} {K : Mem → Prop} (hne : rs ≠ r) (h : K (RowS h0 r ty rest d rs v)) : stoVC (RowS h0 r ty rest d rs s) ⟨rs, 0, none⟩ [.int .i64 v] K := by
  refine sto_intro [.int .i64 s] 3 (RowS.at hne) rfl (Nat.le_refl _) ?_
  have e : Mem.set (RowS h0 r ty rest d rs s) rs (.cells #[.int .i64 v] 3 (0, 0)) = RowS h0 r ty rest d rs v := by
    rw [RowS, RowI, Mem.set_comm (fun e => hne e.symm), Mem.set_set]
    rfl
  show K (Mem.set (RowS h0 r ty rest d rs s) rs (.cells #[.int .i64 v] 3 (0, 0)))
  rw [e]; exact h
theorem RowS.row (h0 : Mem) (r : Nat) (ty : TypeId) (rest : List Value) (d : Array Int) (rs : Nat) (s : Int) : RowS h0 r ty rest d rs s = RowI (h0.set rs (.cells #[.int .i64 s] 3 (0, 0))) r ty rest d := rfl
theorem order2_spec {n a b cap : Nat} (hne : rs ≠ r) (hd : d.size = n) (ha : a < n) (hb : b < n) :
    SpecH Tryz.prog 359 [.slice (some ⟨r, 0, none⟩) n cap, .int .i64 a, .int .i64 b, .pointer (some ⟨rs, 0, none⟩)] μ (RowS h0 r ty rest d rs s) fun v μ' h' =>
      ∃ x y : Nat, ((x = a ∧ y = b) ∨ (x = b ∧ y = a)) ∧ v = .tuple #[.int .i64 x, .int .i64 y] ∧ μ' = μ ∧ ∃ s', h' = RowS h0 r ty rest d rs s' := by
  refine SpecH.mk [] Tryz.func359 (by kernel_rfl) ?_
  refine idxI (b) (by omega) (by omega) ?_
  refine rdI (by omega) ?_
  refine idxI (a) (by omega) (by omega) ?_
  refine rdI (by omega) ?_
  refine call_gives (Less_spec _ _) ?_
  refine if_intro (fun hl => ?_) (fun hl => ?_)
  · refine rdS hne ?_
    refine num_intro fun x _ => ?_
    refine wrS hne ?_
    exact ret_plain ⟨b, a, .inr ⟨rfl, rfl⟩, rfl, rfl, _, rfl⟩
  · exact ret_plain ⟨a, b, .inl ⟨rfl, rfl⟩, rfl, rfl, _, rfl⟩
theorem median_spec {n a b c cap : Nat} (hne : rs ≠ r) (hd : d.size = n) (ha : a < n) (hb : b < n) (hc : c < n) :
    SpecH Tryz.prog 357 [.slice (some ⟨r, 0, none⟩) n cap, .int .i64 a, .int .i64 b, .int .i64 c, .pointer (some ⟨rs, 0, none⟩)] μ (RowS h0 r ty rest d rs s) fun v μ' h' =>
      ∃ x : Nat, (x = a ∨ x = b ∨ x = c) ∧ v = .int .i64 x ∧ μ' = μ ∧ ∃ s', h' = RowS h0 r ty rest d rs s' := by
  refine SpecH.mk [] Tryz.func357 (by kernel_rfl) ?_
  refine call_own (order2_spec hne hd ha hb) fun v μ' h' hle hap hR => ?_
  obtain ⟨x1, y1, o1, rfl, e1, s1, rfl⟩ := hR
  obtain rfl := e1.symm
  refine call_own (order2_spec (a := y1) (b := c) hne hd (by omega) hc) fun v μ' h' hle hap hR => ?_
  obtain ⟨x2, y2, o2, rfl, e2, s2, rfl⟩ := hR
  obtain rfl := e2.symm
  refine call_own (order2_spec (a := x1) (b := x2) hne hd (by omega) (by omega)) fun v μ' h' hle hap hR => ?_
  obtain ⟨x3, y3, o3, rfl, e3, s3, rfl⟩ := hR
  obtain rfl := e3.symm
  exact ret_plain ⟨y3, by omega, rfl, rfl, _, rfl⟩
theorem medianAdjacent_spec {n a cap : Nat} (hne : rs ≠ r) (hd : d.size = n) (ha : 1 ≤ a) (hb : a + 1 < n) (hn : n ≤ 1000000000000) :
    SpecH Tryz.prog 356 [.slice (some ⟨r, 0, none⟩) n cap, .int .i64 a, .pointer (some ⟨rs, 0, none⟩)] μ (RowS h0 r ty rest d rs s) fun v μ' h' =>
      ∃ x : Nat, (x + 1 = a ∨ x = a ∨ x = a + 1) ∧ v = .int .i64 x ∧ μ' = μ ∧ ∃ s', h' = RowS h0 r ty rest d rs s' := by
  refine SpecH.mk [] Tryz.func356 (by kernel_rfl) ?_
  refine num_eq (x := ((a - 1 : Nat) : Int)) (by rw [wrap64 (by omega) (by omega)]; omega) ?_
  refine num_eq (x := ((a + 1 : Nat) : Int)) (by rw [wrap64 (by omega) (by omega)]; omega) ?_
  refine call_own (median_spec (a := a - 1) (b := a) (c := a + 1) hne hd (by omega) (by omega) (by omega)) fun v μ' h' hle hap hR => ?_
  obtain ⟨x1, o1, rfl, e1, s1, rfl⟩ := hR
  obtain rfl := e1.symm
  exact ret_plain ⟨x1, by omega, rfl, rfl, _, rfl⟩
theorem RowS.parts (hne : rs ≠ r) (hs : h0 rs = none) : Parts (RowS h0 r ty rest d rs s) (Mem.nil.set rs (.cells #[.int .i64 s] 3 (0, 0))) (RowI h0 r ty rest d) := fun b => by
  by_cases h : b = rs
  · subst h
    exact .inl ⟨by rw [RowS.at hne, Mem.set_at], by rw [RowI, Mem.set_ne hne]; exact hs⟩
  · refine .inr ⟨?_, by rw [Mem.set_ne h]; rfl⟩
    rw [RowS, RowI, RowI]
    by_cases h2 : b = r
    · subst h2; rw [Mem.set_at, Mem.set_at]
    · rw [Mem.set_ne h2, Mem.set_ne h2, Mem.set_ne h]
set_option maxHeartbeats 4000000 in
theorem choosePivot_spec {n a b cap : Nat} (hr : h0 r = none) (hd : d.size = n) (ha : a < b) (hb : b ≤ n) (hn : n ≤ 1000000000000) :
    SpecH Tryz.prog 347 [.slice (some ⟨r, 0, none⟩) n cap, .int .i64 a, .int .i64 b] μ (RowI h0 r ty rest d) fun v _μ' h' =>
      ∃ p k : Nat, a ≤ p ∧ p < b ∧ k ≤ 2 ∧ v = .tuple #[.int .i64 p, .int .i64 k] ∧ h' = RowI h0 r ty rest d := by
  refine SpecH.mk [9] Tryz.func347 (by kernel_rfl) ?_
  refine num_eq (x := ((b - a : Nat) : Int)) (by rw [wrap64 (by omega) (by omega)]; omega) ?_
  intro rs hm ho
  have hne : rs ≠ r := fun e => by
    subst e
    have : RowI h0 rs ty rest d rs = none := ho
    rw [RowI, Mem.set_at] at this; cases this
  have hs0 : h0 rs = none := by
    have : RowI h0 r ty rest d rs = none := ho
    rwa [RowI, Mem.set_ne hne] at this
  have e0 : Mem.set (RowI h0 r ty rest d) rs (.cells #[.int .i64 0] 3 (0, 0)) = RowS h0 r ty rest d rs 0 := by
    rw [RowS, RowI, RowI, Mem.set_comm (fun e => hne e.symm)]
  generalize hH : Mem.set (RowI h0 r ty rest d) rs _ = H
  obtain rfl : H = RowS h0 r ty rest d rs 0 := hH.symm.trans e0
  clear e0 hH ho hm
  refine need_intro (by decide) ?_
  refine num_eq (x := (((b - a) / 4 : Nat) : Int)) (by rw [Int.tdiv_eq_ediv_of_nonneg (by omega), wrap64 (by omega) (by omega)]; omega) ?_
  refine num_eq (x := (((b - a) / 4 * 1 : Nat) : Int)) (by rw [wrap64 (by omega) (by omega)]; omega) ?_
  refine num_eq (x := ((a + (b - a) / 4 * 1 : Nat) : Int)) (by rw [wrap64 (by omega) (by omega)]; omega) ?_
  refine need_intro (by decide) ?_
  refine num_eq (x := (((b - a) / 4 : Nat) : Int)) (by rw [Int.tdiv_eq_ediv_of_nonneg (by omega), wrap64 (by omega) (by omega)]; omega) ?_
  refine num_eq (x := (((b - a) / 4 * 2 : Nat) : Int)) (by rw [wrap64 (by omega) (by omega)]; omega) ?_
  refine num_eq (x := ((a + (b - a) / 4 * 2 : Nat) : Int)) (by rw [wrap64 (by omega) (by omega)]; omega) ?_
  refine need_intro (by decide) ?_
  refine num_eq (x := (((b - a) / 4 : Nat) : Int)) (by rw [Int.tdiv_eq_ediv_of_nonneg (by omega), wrap64 (by omega) (by omega)]; omega) ?_
  refine num_eq (x := (((b - a) / 4 * 3 : Nat) : Int)) (by rw [wrap64 (by omega) (by omega)]; omega) ?_
  refine num_eq (x := ((a + (b - a) / 4 * 3 : Nat) : Int)) (by rw [wrap64 (by omega) (by omega)]; omega) ?_
  refine ifd (fun h8 => ?_) (fun h8 => ?_)
  · refine ifd (fun h50 => ?_) (fun h50 => ?_)
    · refine call_own (medianAdjacent_spec (a := a + (b - a) / 4 * 1) hne hd (by omega) (by omega) hn) fun v μ' h' hle hap hR => ?_
      obtain ⟨x1, o1, rfl, e1, s1, rfl⟩ := hR
      obtain rfl := e1.symm
      refine call_own (medianAdjacent_spec (a := a + (b - a) / 4 * 2) hne hd (by omega) (by omega) hn) fun v μ' h' hle hap hR => ?_
      obtain ⟨x2, o2, rfl, e1, s2, rfl⟩ := hR
      obtain rfl := e1.symm
      refine call_own (medianAdjacent_spec (a := a + (b - a) / 4 * 3) hne hd (by omega) (by omega) hn) fun v μ' h' hle hap hR => ?_
      obtain ⟨x3, o3, rfl, e1, s3, rfl⟩ := hR
      obtain rfl := e1.symm
      refine call_own (median_spec (a := x1) (b := x2) (c := x3) hne hd (by omega) (by omega) (by omega)) fun v μ' h' hle hap hR => ?_
      obtain ⟨x4, o4, rfl, e1, s4, rfl⟩ := hR
      obtain rfl := e1.symm
      refine rdS hne ?_
      refine ifd (fun h1 => ?_) (fun h1 => ?_)
      · exact ret_own _ _ (RowS.parts hne hs0) ⟨x4, 1, by omega, by omega, by omega, rfl, rfl⟩
      refine ifd (fun h1 => ?_) (fun h1 => ?_)
      · exact ret_own _ _ (RowS.parts hne hs0) ⟨x4, 2, by omega, by omega, by omega, rfl, rfl⟩
      exact ret_own _ _ (RowS.parts hne hs0) ⟨x4, 0, by omega, by omega, by omega, rfl, rfl⟩
    · refine call_own (median_spec (a := a + (b - a) / 4 * 1) (b := a + (b - a) / 4 * 2) (c := a + (b - a) / 4 * 3) hne hd (by omega) (by omega) (by omega)) fun v μ' h' hle hap hR => ?_
      obtain ⟨x4, o4, rfl, e1, s4, rfl⟩ := hR
      obtain rfl := e1.symm
      refine rdS hne ?_
      refine ifd (fun h1 => ?_) (fun h1 => ?_)
      · exact ret_own _ _ (RowS.parts hne hs0) ⟨x4, 1, by omega, by omega, by omega, rfl, rfl⟩
      refine ifd (fun h1 => ?_) (fun h1 => ?_)
      · exact ret_own _ _ (RowS.parts hne hs0) ⟨x4, 2, by omega, by omega, by omega, rfl, rfl⟩
      exact ret_own _ _ (RowS.parts hne hs0) ⟨x4, 0, by omega, by omega, by omega, rfl, rfl⟩
  · refine rdS hne ?_
    refine ifd (fun h1 => ?_) (fun h1 => ?_)
    · exact ret_own _ _ (RowS.parts hne hs0) ⟨a + (b - a) / 4 * 2, 1, by omega, by omega, by omega, rfl, rfl⟩
    refine ifd (fun h1 => ?_) (fun h1 => ?_)
    · exact ret_own _ _ (RowS.parts hne hs0) ⟨a + (b - a) / 4 * 2, 2, by omega, by omega, by omega, rfl, rfl⟩
    exact ret_own _ _ (RowS.parts hne hs0) ⟨a + (b - a) / 4 * 2, 0, by omega, by omega, by omega, rfl, rfl⟩
end
end Go.Vx

/- Contracts: lengths in bits. -/
namespace Go.Vx
open Go.Proofs Classical
open Go.Sort
theorem bitsLen_shift {x k : Nat} (h : 2 ^ k ≤ x) : bitsLen x = bitsLen (x / 2 ^ k) + k := by
  have hpos : 0 < 2 ^ k := Nat.two_pow_pos k
  apply Nat.le_antisymm
  · rw [bitsLen_le_iff, Nat.pow_add]
    have := lt_two_pow_bitsLen (x / 2 ^ k)
    rw [Nat.div_lt_iff_lt_mul hpos] at this
    exact this
  · have h1 : k < bitsLen x := by
      rcases Nat.lt_or_ge k (bitsLen x) with h2 | h2
      · exact h2
      · have := (bitsLen_le_iff x k).1 h2; omega
    have h3 : bitsLen (x / 2 ^ k) ≤ bitsLen x - k := by
      rw [bitsLen_le_iff, Nat.div_lt_iff_lt_mul hpos, ← Nat.pow_add]
      have : bitsLen x - k + k = bitsLen x := by omega
      rw [this]; exact lt_two_pow_bitsLen x
    omega
section
variable {μ : Mem}
theorem Len64_spec {x : Nat} (hx : x < 18446744073709551616) : Gives Tryz.prog 268 [.int .u64 x] μ (.int .i64 (bitsLen x)) := by
  obtain ⟨L, hL⟩ : ∃ L, L = bitsLen x := ⟨_, rfl⟩
  rw [← hL]
  refine Spec.mk Tryz.func268 (by kernel_rfl) ?_
  refine ifd (fun h1 => ?_) (fun h1 => ?_)
  · refine need_intro (by decide) ?_
    refine num_eq (x := ((x / 4294967296 : Nat) : Int)) (by
      show (x : Int).fdiv 4294967296 = _
      rw [Int.fdiv_eq_ediv_of_nonneg _ (by decide)]; rfl) ?_
    have b1 : bitsLen x = bitsLen (x / 4294967296) + 32 := bitsLen_shift (k := 32) (by omega)
    have b2 : x / 4294967296 < 4294967296 := by omega
    generalize x / 4294967296 = y at *
    refine ifd (fun h2 => ?_) (fun h2 => ?_)
    · refine need_intro (by decide) ?_
      refine num_eq (x := ((y / 65536 : Nat) : Int)) (by
        show (y : Int).fdiv 65536 = _
        rw [Int.fdiv_eq_ediv_of_nonneg _ (by decide)]; rfl) ?_
      have b3 : bitsLen y = bitsLen (y / 65536) + 16 := bitsLen_shift (k := 16) (by omega)
      have b4 : y / 65536 < 65536 := by omega
      generalize y / 65536 = z at *
      refine num_eq (x := 32 + 16) (by decide) ?_
      refine ifd (fun h3 => ?_) (fun h3 => ?_)
      · refine need_intro (by decide) ?_
        refine num_eq (x := ((z / 256 : Nat) : Int)) (by
          show (z : Int).fdiv 256 = _
          rw [Int.fdiv_eq_ediv_of_nonneg _ (by decide)]; rfl) ?_
        have b5 : bitsLen z = bitsLen (z / 256) + 8 := bitsLen_shift (k := 8) (by omega)
        have b6 : z / 256 < 256 := by omega
        generalize z / 256 = w at *
        refine num_eq (x := 32 + 16 + 8) (by decide) ?_
        have b7 : bitsLen w ≤ 8 := (bitsLen_le_iff w 8).2 b6
        refine num_eq (x := (w : Int)) (by
          show (w : Int) % 256 = _
          omega) ?_
        refine byte_intro w (UInt8.ofNat (bitsLen w)) rfl ?_ ?_
        · clear b5 b7
          try clear hw
          revert w
          decide +kernel
        refine num_eq (x := (bitsLen w : Int)) (by
          rw [UInt8.toNat_ofNat', Nat.mod_eq_of_lt (by omega), wrap64 (by omega) (by omega)]) ?_
        refine num_eq (x := (L : Int)) (by rw [wrap64 (by omega) (by omega)]; omega) ?_
        exact ret_gives rfl rfl
      · obtain ⟨w, hw⟩ : ∃ w, w = z := ⟨_, rfl⟩
        have b5 : bitsLen z = bitsLen w + 0 := by rw [hw]; rfl
        have b6 : w < 256 := by omega
        rw [← hw]
        have b7 : bitsLen w ≤ 8 := (bitsLen_le_iff w 8).2 b6
        refine num_eq (x := (w : Int)) (by
          show (w : Int) % 256 = _
          omega) ?_
        refine byte_intro w (UInt8.ofNat (bitsLen w)) rfl ?_ ?_
        · clear b5 b7
          try clear hw
          revert w
          decide +kernel
        refine num_eq (x := (bitsLen w : Int)) (by
          rw [UInt8.toNat_ofNat', Nat.mod_eq_of_lt (by omega), wrap64 (by omega) (by omega)]) ?_
        refine num_eq (x := (L : Int)) (by rw [wrap64 (by omega) (by omega)]; omega) ?_
        exact ret_gives rfl rfl
    · obtain ⟨z, hz⟩ : ∃ z, z = y := ⟨_, rfl⟩
      have b3 : bitsLen y = bitsLen z + 0 := by rw [hz]; rfl
      have b4 : z < 65536 := by omega
      rw [← hz]
      refine ifd (fun h3 => ?_) (fun h3 => ?_)
      · refine need_intro (by decide) ?_
        refine num_eq (x := ((z / 256 : Nat) : Int)) (by
          show (z : Int).fdiv 256 = _
          rw [Int.fdiv_eq_ediv_of_nonneg _ (by decide)]; rfl) ?_
        have b5 : bitsLen z = bitsLen (z / 256) + 8 := bitsLen_shift (k := 8) (by omega)
        have b6 : z / 256 < 256 := by omega
        generalize z / 256 = w at *
        refine num_eq (x := 32 + 8) (by decide) ?_
        have b7 : bitsLen w ≤ 8 := (bitsLen_le_iff w 8).2 b6
        refine num_eq (x := (w : Int)) (by
          show (w : Int) % 256 = _
          omega) ?_
        refine byte_intro w (UInt8.ofNat (bitsLen w)) rfl ?_ ?_
        · clear b5 b7
          try clear hw
          revert w
          decide +kernel
        refine num_eq (x := (bitsLen w : Int)) (by
          rw [UInt8.toNat_ofNat', Nat.mod_eq_of_lt (by omega), wrap64 (by omega) (by omega)]) ?_
        refine num_eq (x := (L : Int)) (by rw [wrap64 (by omega) (by omega)]; omega) ?_
        exact ret_gives rfl rfl
      · obtain ⟨w, hw⟩ : ∃ w, w = z := ⟨_, rfl⟩
        have b5 : bitsLen z = bitsLen w + 0 := by rw [hw]; rfl
        have b6 : w < 256 := by omega
        rw [← hw]
        have b7 : bitsLen w ≤ 8 := (bitsLen_le_iff w 8).2 b6
        refine num_eq (x := (w : Int)) (by
          show (w : Int) % 256 = _
          omega) ?_
        refine byte_intro w (UInt8.ofNat (bitsLen w)) rfl ?_ ?_
        · clear b5 b7
          try clear hw
          revert w
          decide +kernel
        refine num_eq (x := (bitsLen w : Int)) (by
          rw [UInt8.toNat_ofNat', Nat.mod_eq_of_lt (by omega), wrap64 (by omega) (by omega)]) ?_
        refine num_eq (x := (L : Int)) (by rw [wrap64 (by omega) (by omega)]; omega) ?_
        exact ret_gives rfl rfl
  · obtain ⟨y, hy⟩ : ∃ y, y = x := ⟨_, rfl⟩
    have b1 : bitsLen x = bitsLen y + 0 := by rw [hy]; rfl
    have b2 : y < 4294967296 := by omega
    rw [← hy]
    refine ifd (fun h2 => ?_) (fun h2 => ?_)
    · refine need_intro (by decide) ?_
      refine num_eq (x := ((y / 65536 : Nat) : Int)) (by
        show (y : Int).fdiv 65536 = _
        rw [Int.fdiv_eq_ediv_of_nonneg _ (by decide)]; rfl) ?_
      have b3 : bitsLen y = bitsLen (y / 65536) + 16 := bitsLen_shift (k := 16) (by omega)
      have b4 : y / 65536 < 65536 := by omega
      generalize y / 65536 = z at *
      refine num_eq (x := 0 + 16) (by decide) ?_
      refine ifd (fun h3 => ?_) (fun h3 => ?_)
      · refine need_intro (by decide) ?_
        refine num_eq (x := ((z / 256 : Nat) : Int)) (by
          show (z : Int).fdiv 256 = _
          rw [Int.fdiv_eq_ediv_of_nonneg _ (by decide)]; rfl) ?_
        have b5 : bitsLen z = bitsLen (z / 256) + 8 := bitsLen_shift (k := 8) (by omega)
        have b6 : z / 256 < 256 := by omega
        generalize z / 256 = w at *
        refine num_eq (x := 0 + 16 + 8) (by decide) ?_
        have b7 : bitsLen w ≤ 8 := (bitsLen_le_iff w 8).2 b6
        refine num_eq (x := (w : Int)) (by
          show (w : Int) % 256 = _
          omega) ?_
        refine byte_intro w (UInt8.ofNat (bitsLen w)) rfl ?_ ?_
        · clear b5 b7
          try clear hw
          revert w
          decide +kernel
        refine num_eq (x := (bitsLen w : Int)) (by
          rw [UInt8.toNat_ofNat', Nat.mod_eq_of_lt (by omega), wrap64 (by omega) (by omega)]) ?_
        refine num_eq (x := (L : Int)) (by rw [wrap64 (by omega) (by omega)]; omega) ?_
        exact ret_gives rfl rfl
      · obtain ⟨w, hw⟩ : ∃ w, w = z := ⟨_, rfl⟩
        have b5 : bitsLen z = bitsLen w + 0 := by rw [hw]; rfl
        have b6 : w < 256 := by omega
        rw [← hw]
        have b7 : bitsLen w ≤ 8 := (bitsLen_le_iff w 8).2 b6
        refine num_eq (x := (w : Int)) (by
          show (w : Int) % 256 = _
          omega) ?_
        refine byte_intro w (UInt8.ofNat (bitsLen w)) rfl ?_ ?_
        · clear b5 b7
          try clear hw
          revert w
          decide +kernel
        refine num_eq (x := (bitsLen w : Int)) (by
          rw [UInt8.toNat_ofNat', Nat.mod_eq_of_lt (by omega), wrap64 (by omega) (by omega)]) ?_
        refine num_eq (x := (L : Int)) (by rw [wrap64 (by omega) (by omega)]; omega) ?_
        exact ret_gives rfl rfl
    · obtain ⟨z, hz⟩ : ∃ z, z = y := ⟨_, rfl⟩
      have b3 : bitsLen y = bitsLen z + 0 := by rw [hz]; rfl
      have b4 : z < 65536 := by omega
      rw [← hz]
      refine ifd (fun h3 => ?_) (fun h3 => ?_)
      · refine need_intro (by decide) ?_
        refine num_eq (x := ((z / 256 : Nat) : Int)) (by
          show (z : Int).fdiv 256 = _
          rw [Int.fdiv_eq_ediv_of_nonneg _ (by decide)]; rfl) ?_
        have b5 : bitsLen z = bitsLen (z / 256) + 8 := bitsLen_shift (k := 8) (by omega)
        have b6 : z / 256 < 256 := by omega
        generalize z / 256 = w at *
        refine num_eq (x := 0 + 8) (by decide) ?_
        have b7 : bitsLen w ≤ 8 := (bitsLen_le_iff w 8).2 b6
        refine num_eq (x := (w : Int)) (by
          show (w : Int) % 256 = _
          omega) ?_
        refine byte_intro w (UInt8.ofNat (bitsLen w)) rfl ?_ ?_
        · clear b5 b7
          try clear hw
          revert w
          decide +kernel
        refine num_eq (x := (bitsLen w : Int)) (by
          rw [UInt8.toNat_ofNat', Nat.mod_eq_of_lt (by omega), wrap64 (by omega) (by omega)]) ?_
        refine num_eq (x := (L : Int)) (by rw [wrap64 (by omega) (by omega)]; omega) ?_
        exact ret_gives rfl rfl
      · obtain ⟨w, hw⟩ : ∃ w, w = z := ⟨_, rfl⟩
        have b5 : bitsLen z = bitsLen w + 0 := by rw [hw]; rfl
        have b6 : w < 256 := by omega
        rw [← hw]
        have b7 : bitsLen w ≤ 8 := (bitsLen_le_iff w 8).2 b6
        refine num_eq (x := (w : Int)) (by
          show (w : Int) % 256 = _
          omega) ?_
        refine byte_intro w (UInt8.ofNat (bitsLen w)) rfl ?_ ?_
        · clear b5 b7
          try clear hw
          revert w
          decide +kernel
        refine num_eq (x := (bitsLen w : Int)) (by
          rw [UInt8.toNat_ofNat', Nat.mod_eq_of_lt (by omega), wrap64 (by omega) (by omega)]) ?_
        refine num_eq (x := (L : Int)) (by rw [wrap64 (by omega) (by omega)]; omega) ?_
        exact ret_gives rfl rfl
theorem Len_spec {x : Nat} (hx : x < 18446744073709551616) : Gives Tryz.prog 183 [.int .u64 x] μ (.int .i64 (bitsLen x)) := by
  refine Spec.mk Tryz.func183 (by kernel_rfl) ?_
  refine call_gives (Len64_spec hx) ?_
  exact ret_gives rfl rfl
theorem and_le {x m : Int} (h0 : 0 ≤ m) (h1 : m < 18446744073709551616) : 0 ≤ bits .and .u64 x m ∧ bits .and .u64 x m ≤ m := by
  have e : bits .and .u64 x m = (((BitVec.ofInt 64 x &&& BitVec.ofInt 64 m).toNat : Nat) : Int) % 18446744073709551616 := rfl
  have h2 : (BitVec.ofInt 64 m).toNat = m.toNat := by
    rw [BitVec.toNat_ofInt]
    congr 1
    exact Int.emod_eq_of_lt h0 h1
  have h3 : (BitVec.ofInt 64 x &&& BitVec.ofInt 64 m).toNat ≤ m.toNat := by
    rw [BitVec.toNat_and, h2]
    exact Nat.and_le_right
  rw [e]
  omega
end
end Go.Vx

/- Contracts: lengths in bits; patterns broken. -/
namespace Go.Vx
open Go.Proofs Classical
open Go.Sort
section
variable {μ h0 : Mem} {r rs : Nat} {ty : TypeId} {rest : List Value} {d : Array Int} {s : Int}
theorem nextPowerOfTwo_spec {x : Nat} (hx : x ≤ 1000000000000) : Gives Tryz.prog 354 [.int .i64 x] μ (.int .u64 ((2 ^ bitsLen x : Nat) : Int)) := by
  refine Spec.mk Tryz.func354 (by kernel_rfl) ?_
  have h1 : bitsLen x ≤ 40 := (bitsLen_le_iff x 40).2 (by omega)
  have h2 : 2 ^ bitsLen x ≤ 2 ^ 40 := Nat.pow_le_pow_right (by decide) h1
  have h3 : (2 : Nat) ^ 40 = 1099511627776 := by decide
  refine num_eq (x := (x : Int)) (by
    show (x : Int) % 18446744073709551616 = _
    omega) ?_
  refine call_gives (Len_spec (by omega)) ?_
  refine need_intro (by omega) ?_
  refine num_eq (x := ((2 ^ bitsLen x : Nat) : Int)) (by
    have e : min ((bitsLen x : Int).toNat) IntKind.u64.bits = bitsLen x := by
      show min ((bitsLen x : Int).toNat) 64 = bitsLen x
      omega
    rw [e]
    have h4 : ((2 : Int) ^ bitsLen x) = ((2 ^ bitsLen x : Nat) : Int) := by rw [Int.natCast_pow]; rfl
    show (1 * (2 : Int) ^ bitsLen x) % 18446744073709551616 = _
    rw [Int.one_mul, h4]
    generalize 2 ^ bitsLen x = P at *
    omega) ?_
  exact ret_gives rfl rfl
/-- A row of numbers beside a state of the generator. -/
def RowX (h0 : Mem) (r : Nat) (ty : TypeId) (rest : List Value) (d : Array Int) (rs : Nat) (s : Int) : Mem := RowI (h0.set rs (.cells #[.int .u64 s] 318 (0, 0))) r ty rest d
theorem RowX.at (hne : rs ≠ r) : RowX h0 r ty rest d rs s rs = some (.cells #[.int .u64 s] 318 (0, 0)) := by
  rw [RowX, RowI, Mem.set_ne hne, Mem.set_at]
theorem rdX {K : List Value → Prop} (hne : rs ≠ r) (h : K [.int .u64 s]) : extVC μ (RowX h0 r ty rest d rs s) ⟨rs, 0, none⟩ 1 K := own_intro _ rfl (box_at (RowX.at hne)) h
theorem wrX {v : Int} {K : Mem → Prop} (hne : rs ≠ r) (h : K (RowX h0 r ty rest d rs v)) : stoVC (RowX h0 r ty rest d rs s) ⟨rs, 0, none⟩ [.int .u64 v] K := by
  refine sto_intro [.int .u64 s] 318 (RowX.at hne) rfl (Nat.le_refl _) ?_
  have e : Mem.set (RowX h0 r ty rest d rs s) rs (.cells #[.int .u64 v] 318 (0, 0)) = RowX h0 r ty rest d rs v := by
    rw [RowX, RowI, Mem.set_comm (fun e => hne e.symm), Mem.set_set]
    rfl
  show K (Mem.set (RowX h0 r ty rest d rs s) rs (.cells #[.int .u64 v] 318 (0, 0)))
  rw [e]; exact h
theorem RowX.parts (hne : rs ≠ r) (hs : h0 rs = none) : Parts (RowX h0 r ty rest d rs s) (Mem.nil.set rs (.cells #[.int .u64 s] 318 (0, 0))) (RowI h0 r ty rest d) := fun b => by
  by_cases h : b = rs
  · subst h
    exact .inl ⟨by rw [RowX.at hne, Mem.set_at], by rw [RowI, Mem.set_ne hne]; exact hs⟩
  · refine .inr ⟨?_, by rw [Mem.set_ne h]; rfl⟩
    rw [RowX, RowI, RowI]
    by_cases h2 : b = r
    · subst h2; rw [Mem.set_at, Mem.set_at]
    · rw [Mem.set_ne h2, Mem.set_ne h2, Mem.set_ne h]
theorem Next_spec (hne : rs ≠ r) : SpecH Tryz.prog 355 [.pointer (some ⟨rs, 0, none⟩)] μ (RowX h0 r ty rest d rs s) fun v μ' h' => ∃ s', v = .int .u64 s' ∧ μ' = μ ∧ h' = RowX h0 r ty rest d rs s' := by
  refine SpecH.mk [] Tryz.func355 (by kernel_rfl) ?_
  refine rdX hne ?_
  refine rdX hne ?_
  refine need_intro (by decide) ?_
  refine num_intro fun _ _ => ?_
  refine num_intro fun _ _ => ?_
  refine wrX hne ?_
  refine rdX hne ?_
  refine rdX hne ?_
  refine need_intro (by decide) ?_
  refine num_intro fun _ _ => ?_
  refine num_intro fun _ _ => ?_
  refine wrX hne ?_
  refine rdX hne ?_
  refine rdX hne ?_
  refine need_intro (by decide) ?_
  refine num_intro fun _ _ => ?_
  refine num_intro fun _ _ => ?_
  refine wrX hne ?_
  refine rdX hne ?_
  exact ret_plain ⟨_, rfl, rfl, rfl⟩
theorem breakPatterns_spec {n a b cap : Nat} (hr : h0 r = none) (hd : d.size = n) (ha : a + 8 ≤ b) (hb : b ≤ n) (hn : n ≤ 1000000000000) :
    SpecH Tryz.prog 346 [.slice (some ⟨r, 0, none⟩) n cap, .int .i64 a, .int .i64 b] μ (RowI h0 r ty rest d) fun v _μ' h' => v = .tuple #[] ∧ ∃ d', PermIn a b d d' ∧ h' = RowI h0 r ty rest d' := by
  refine SpecH.mk [7] Tryz.func346 (by kernel_rfl) ?_
  refine num_eq (x := ((b - a : Nat) : Int)) (by rw [wrap64 (by omega) (by omega)]; omega) ?_
  refine ifd (fun h8 => ?_) (fun h8 => by omega)
  refine num_intro fun s0 _ => ?_
  intro rs hm ho
  have hne : rs ≠ r := fun e => by
    subst e
    have : RowI h0 rs ty rest d rs = none := ho
    rw [RowI, Mem.set_at] at this; cases this
  have hs0 : h0 rs = none := by
    have : RowI h0 r ty rest d rs = none := ho
    rwa [RowI, Mem.set_ne hne] at this
  have e0 : Mem.set (RowI h0 r ty rest d) rs (.cells #[.int .u64 0] 318 (0, 0)) = RowX h0 r ty rest d rs 0 := by
    rw [RowX, RowI, RowI, Mem.set_comm (fun e => hne e.symm)]
  generalize hH : Mem.set (RowI h0 r ty rest d) rs _ = H
  obtain rfl : H = RowX h0 r ty rest d rs 0 := hH.symm.trans e0
  clear e0 hH ho hm
  refine wrX hne ?_
  refine call_gives (nextPowerOfTwo_spec (x := b - a) (by omega)) ?_
  have hP1 : 1 ≤ 2 ^ bitsLen (b - a) := Nat.two_pow_pos _
  have hP2 : 2 ^ bitsLen (b - a) ≤ 2 * (b - a) := two_pow_bitsLen_le (by omega)
  generalize 2 ^ bitsLen (b - a) = P at *
  refine need_intro (by decide) ?_
  refine num_eq (x := (((b - a) / 4 : Nat) : Int)) (by rw [Int.tdiv_eq_ediv_of_nonneg (by omega), wrap64 (by omega) (by omega)]; omega) ?_
  refine num_eq (x := (((b - a) / 4 * 2 : Nat) : Int)) (by rw [wrap64 (by omega) (by omega)]; omega) ?_
  refine num_eq (x := ((a + (b - a) / 4 * 2 : Nat) : Int)) (by rw [wrap64 (by omega) (by omega)]; omega) ?_
  refine num_eq (x := ((a + (b - a) / 4 * 2 - 1 : Nat) : Int)) (by rw [wrap64 (by omega) (by omega)]; omega) ?_
  refine loop_intro (fun p : Nat × Array Int × Int => a + (b - a) / 4 * 2 ≤ p.1 + 1 ∧ p.1 ≤ a + (b - a) / 4 * 2 + 2 ∧ PermIn a b d p.2.1)
    (fun (i, d, s) => ⟨[(0, .val (.slice (some ⟨r, 0, none⟩) n cap)), (1, .val (.int .i64 a)), (6, .val (.int .i64 (b - a : Nat))), (7, .val (.pointer (some ⟨rs, 0, none⟩))), (8, .val (.int .u64 P)), (9, .val (.int .i64 i))], [], 0, μ, RowX h0 r ty rest d rs s⟩) (fun p => a + (b - a) / 4 * 2 + 3 - p.1)
    (a + (b - a) / 4 * 2 - 1, d, s0) ⟨by dsimp only; omega, by dsimp only; omega, permIn_refl _ _ _⟩ (fun (_, _, _) => ⟨rfl, rfl⟩) ⟨⟨rfl, rfl, rfl, rfl, rfl, rfl, trivial⟩, trivial, rfl, rfl⟩ ?_
  rintro ⟨i, d1, s1⟩ ⟨hi1, hi2, hp⟩
  dsimp only at hi1 hi2 hp
  have hs1 : d1.size = n := hp.1.trans hd
  refine need_intro (by decide) ?_
  refine num_eq (x := (((b - a) / 4 : Nat) : Int)) (by rw [Int.tdiv_eq_ediv_of_nonneg (by omega), wrap64 (by omega) (by omega)]; omega) ?_
  refine num_eq (x := (((b - a) / 4 * 2 : Nat) : Int)) (by rw [wrap64 (by omega) (by omega)]; omega) ?_
  refine num_eq (x := ((a + (b - a) / 4 * 2 : Nat) : Int)) (by rw [wrap64 (by omega) (by omega)]; omega) ?_
  refine num_eq (x := ((a + (b - a) / 4 * 2 + 1 : Nat) : Int)) (by rw [wrap64 (by omega) (by omega)]; omega) ?_
  refine ifd (fun hle => ?_) (fun hle => ?_)
  rotate_left
  · exact ret_own _ _ (RowX.parts hne hs0) ⟨rfl, d1, hp, rfl⟩
  refine call_own (Next_spec hne) fun v μ' h' hle' hap hR => ?_
  obtain ⟨s2, rfl, e1, rfl⟩ := hR
  obtain rfl := e1.symm
  refine num_eq (x := ((P - 1 : Nat) : Int)) (by
    show ((P : Int) - 1) % 18446744073709551616 = _
    omega) ?_
  refine num_intro fun y hy => ?_
  have hv_ := and_le (x := s2) (m := ((P - 1 : Nat) : Int)) (by omega) (by omega)
  obtain ⟨hy1, hy2⟩ := hv_
  rw [← hy] at hy1 hy2
  have hv_ := Int.eq_ofNat_of_zero_le hy1
  obtain ⟨o, rfl⟩ := hv_
  clear hy
  refine num_eq (x := (o : Int)) (wrap64 (by omega) (by omega)) ?_
  refine ifd (fun ho => ?_) (fun ho => ?_)
  · refine num_eq (x := ((o - (b - a) : Nat) : Int)) (by rw [wrap64 (by omega) (by omega)]; omega) ?_
    have ho2 : o - (b - a) < b - a := by omega
    generalize o - (b - a) = q at *
    refine num_eq (x := ((a + q : Nat) : Int)) (by rw [wrap64 (by omega) (by omega)]; omega) ?_
    refine num_eq (x := ((a + q : Nat) : Int)) (by rw [wrap64 (by omega) (by omega)]; omega) ?_
    refine idxI (a + q) (by omega) (by omega) ?_
    refine rdI (by omega) ?_
    refine idxI (i) (by omega) (by omega) ?_
    refine rdI (by omega) ?_
    refine idxI (i) (by omega) (by omega) ?_
    refine wrI (by omega) ?_
    refine idxI (a + q) (by omega) (by omega) ?_
    refine wrI (by simp; omega) ?_
    refine num_eq (x := ((i + 1 : Nat) : Int)) (by rw [wrap64 (by omega) (by omega)]; omega) ?_
    exact ⟨(i + 1, swp d1 i (a + q), s2), ⟨by dsimp only; omega, by dsimp only; omega, permIn_trans _ _ _ _ _ hp (swp_permIn d1 a b i (a + q) (by omega) (by omega) (by omega) (by omega) (by omega))⟩, by dsimp only; omega, ⟨⟨rfl, rfl, rfl, rfl, rfl, rfl, trivial⟩, trivial, rfl, rfl⟩⟩
  · refine num_eq (x := ((a + o : Nat) : Int)) (by rw [wrap64 (by omega) (by omega)]; omega) ?_
    refine num_eq (x := ((a + o : Nat) : Int)) (by rw [wrap64 (by omega) (by omega)]; omega) ?_
    refine idxI (a + o) (by omega) (by omega) ?_
    refine rdI (by omega) ?_
    refine idxI (i) (by omega) (by omega) ?_
    refine rdI (by omega) ?_
    refine idxI (i) (by omega) (by omega) ?_
    refine wrI (by omega) ?_
    refine idxI (a + o) (by omega) (by omega) ?_
    refine wrI (by simp; omega) ?_
    refine num_eq (x := ((i + 1 : Nat) : Int)) (by rw [wrap64 (by omega) (by omega)]; omega) ?_
    exact ⟨(i + 1, swp d1 i (a + o), s2), ⟨by dsimp only; omega, by dsimp only; omega, permIn_trans _ _ _ _ _ hp (swp_permIn d1 a b i (a + o) (by omega) (by omega) (by omega) (by omega) (by omega))⟩, by dsimp only; omega, ⟨⟨rfl, rfl, rfl, rfl, rfl, rfl, trivial⟩, trivial, rfl, rfl⟩⟩
end
end Go.Vx

/- Contracts: the partitions. -/
namespace Go.Vx
open Go.Proofs Classical
open Go.Sort
section
variable {μ h0 : Mem} {r : Nat} {ty : TypeId} {rest : List Value} {d : Array Int}
theorem partitionEqual_spec {n a b pivot : Nat} {cap : Nat} (hd : d.size = n) (hap : a ≤ pivot) (hpb : pivot < b) (hb : b ≤ n) (hn : n ≤ 1000000000000) :
    SpecH Tryz.prog 351 [.slice (some ⟨r, 0, none⟩) n cap, .int .i64 a, .int .i64 b, .int .i64 pivot] μ (RowI h0 r ty rest d) fun v μ' h' => v = .int .i64 (partitionEqual ltInt d a b pivot).1 ∧ μ' = μ ∧ h' = RowI h0 r ty rest (partitionEqual ltInt d a b pivot).2 := by
  refine SpecH.mk [] Tryz.func351 (by kernel_rfl) ?_
  rw [partitionEqual]
  generalize hR : partEqLoop ltInt a (a + 1) (b - 1) (swp d a pivot) = R
  refine idxI (pivot) (by omega) (by omega) ?_
  refine rdI (by omega) ?_
  refine idxI (a) (by omega) (by omega) ?_
  refine rdI (by omega) ?_
  refine idxI (a) (by omega) (by omega) ?_
  refine wrI (by omega) ?_
  refine idxI (pivot) (by omega) (by omega) ?_
  refine wrI (by simp; omega) ?_
  refine num_eq (x := ((a + 1 : Nat) : Int)) (by rw [wrap64 (by omega) (by omega)]; omega) ?_
  refine num_eq (x := ((b - 1 : Nat) : Int)) (by rw [wrap64 (by omega) (by omega)]; omega) ?_
  refine loop_intro (fun p : Nat × Nat × Array Int => a < p.1 ∧ p.1 ≤ p.2.1 + 2 ∧ p.2.1 < b ∧ p.2.2.size = n ∧ partEqLoop ltInt a p.1 p.2.1 p.2.2 = R)
    (fun (i, j, d) => ⟨[(0, .val (.slice (some ⟨r, 0, none⟩) n cap)), (1, .val (.int .i64 a)), (9, .val (.int .i64 i)), (10, .val (.int .i64 j))], [], 0, μ, RowI h0 r ty rest d⟩) (fun p => p.2.1 + 1 - p.1)
    (a + 1, b - 1, swp d a pivot) ⟨by dsimp only; omega, by dsimp only; omega, by dsimp only; omega, by dsimp only; rw [Go.Sort.swp_size]; exact hd, hR⟩ (fun (_, _, _) => ⟨rfl, rfl⟩) ⟨⟨rfl, rfl, rfl, rfl, trivial⟩, trivial, rfl, rfl⟩ ?_
  clear hR
  rintro ⟨i, j, d1⟩ ⟨hai, hij0, hjb, hs, hR⟩
  dsimp only at hai hij0 hjb hs hR
  rw [partEqLoop_eq] at hR
  generalize hU : scanUp (fun x => !ltInt d1[a]! x) d1 j i = U at *
  refine loop_intro (fun i' : Nat => i ≤ i' ∧ i' ≤ j + 2 ∧ scanUp (fun x => !ltInt d1[a]! x) d1 j i' = U) (fun i' => ⟨[(0, .val (.slice (some ⟨r, 0, none⟩) n cap)), (1, .val (.int .i64 a)), (9, .val (.int .i64 i')), (10, .val (.int .i64 j))], [], 0, μ, RowI h0 r ty rest d1⟩) (fun i' => j + 1 - i')
    i ⟨by omega, by omega, hU⟩ (fun _ => ⟨rfl, rfl⟩) ⟨⟨rfl, rfl, rfl, rfl, trivial⟩, trivial, rfl, rfl⟩ ?_
  clear hU
  rintro i' ⟨h1, h2, hU⟩
  rw [scanUp] at hU
  refine ifd (fun hij => ?_) (fun hij => ?_)
  refine idxI (a) (by omega) (by omega) ?_
  refine rdI (by omega) ?_
  refine idxI (i') (by omega) (by omega) ?_
  refine rdI (by omega) ?_
  refine call_gives (Less_spec _ _) ?_
  refine if_intro (fun hl => ?_) (fun hl => ?_)
  · rw [if_pos (by simp only [Bool.and_eq_true, decide_eq_true_eq]; exact ⟨by omega, hl⟩)] at hU
    refine num_eq (x := ((i' + 1 : Nat) : Int)) (by rw [wrap64 (by omega) (by omega)]; omega) ?_
    exact ⟨i' + 1, ⟨by omega, by omega, hU⟩, by omega, ⟨⟨rfl, rfl, rfl, rfl, trivial⟩, trivial, rfl, rfl⟩⟩
  rw [if_neg (by simp only [Bool.and_eq_true, hl]; simp)] at hU
  rotate_left
  rw [if_neg (by simp; omega)] at hU
  obtain rfl := hU
  rotate_left
  obtain rfl := hU
  rotate_left
  all_goals
    generalize hV : scanDown (fun x => ltInt d1[a]! x) d1 i' j = V at *
    refine loop_intro (fun j' : Nat => j' ≤ j ∧ 0 ≤ j' ∧ scanDown (fun x => ltInt d1[a]! x) d1 i' j' = V) (fun j' => ⟨[(0, .val (.slice (some ⟨r, 0, none⟩) n cap)), (1, .val (.int .i64 a)), (9, .val (.int .i64 i')), (10, .val (.int .i64 j'))], [], 0, μ, RowI h0 r ty rest d1⟩) (fun j' => j')
      j ⟨by omega, by omega, hV⟩ (fun _ => ⟨rfl, rfl⟩) ⟨⟨rfl, rfl, rfl, rfl, trivial⟩, trivial, rfl, rfl⟩ ?_
    clear hV
    rintro j' ⟨g1, g2, hV⟩
    refine ifd (fun hij2 => ?_) (fun hij2 => ?_)
    obtain ⟨k, rfl⟩ : ∃ k, j' = k + 1 := ⟨j' - 1, by omega⟩
    rw [scanDown] at hV
    refine idxI (a) (by omega) (by omega) ?_
    refine rdI (by omega) ?_
    refine idxI (k + 1) (by omega) (by omega) ?_
    refine rdI (by omega) ?_
    refine call_gives (Less_spec _ _) ?_
    refine if_intro (fun hl => ?_) (fun hl => ?_)
    · rw [if_pos (by simp only [Bool.and_eq_true, decide_eq_true_eq]; exact ⟨by omega, hl⟩)] at hV
      refine num_eq (x := ((k : Nat) : Int)) (by rw [wrap64 (by omega) (by omega)]; omega) ?_
      exact ⟨k, ⟨by omega, by omega, hV⟩, by omega, ⟨⟨rfl, rfl, rfl, rfl, trivial⟩, trivial, rfl, rfl⟩⟩
    rw [if_neg (by simp only [Bool.and_eq_true, hl]; simp)] at hV
    obtain rfl := hV
    generalize k + 1 = j' at *
    rotate_left
    replace hV : j' = V := by
      cases j' with
      | zero => exact hV
      | succ k => rwa [scanDown, if_neg (by simp; omega)] at hV
    obtain rfl := hV
    rotate_left
  all_goals
    refine ifd (fun hgt => ?_) (fun hgt => ?_)
    · rw [if_pos (by omega)] at hR
      subst hR
      exact ret_plain ⟨rfl, rfl, rfl⟩
    · rw [if_neg (by omega)] at hR
      refine idxI (j') (by omega) (by omega) ?_
      refine rdI (by omega) ?_
      refine idxI (i') (by omega) (by omega) ?_
      refine rdI (by omega) ?_
      refine idxI (i') (by omega) (by omega) ?_
      refine wrI (by omega) ?_
      refine idxI (j') (by omega) (by omega) ?_
      refine wrI (by simp; omega) ?_
      refine num_eq (x := ((i' + 1 : Nat) : Int)) (by rw [wrap64 (by omega) (by omega)]; omega) ?_
      refine num_eq (x := ((j' - 1 : Nat) : Int)) (by rw [wrap64 (by omega) (by omega)]; omega) ?_
      exact ⟨(i' + 1, j' - 1, swp d1 i' j'), ⟨by dsimp only; omega, by dsimp only; omega, by dsimp only; omega, by dsimp only; rw [Go.Sort.swp_size]; exact hs, hR⟩, by dsimp only; omega, ⟨⟨rfl, rfl, rfl, rfl, trivial⟩, trivial, rfl, rfl⟩⟩
set_option maxHeartbeats 4000000 in
theorem partition_spec {n a b pivot : Nat} {cap : Nat} (hd : d.size = n) (hap : a ≤ pivot) (hpb : pivot < b) (hb : b ≤ n) (hn : n ≤ 1000000000000) :
    SpecH Tryz.prog 352 [.slice (some ⟨r, 0, none⟩) n cap, .int .i64 a, .int .i64 b, .int .i64 pivot] μ (RowI h0 r ty rest d) fun v μ' h' => (∃ ap, v = .tuple #[.int .i64 (partition ltInt d a b pivot).1, .bool ap]) ∧ μ' = μ ∧ h' = RowI h0 r ty rest (partition ltInt d a b pivot).2.2 := by
  refine SpecH.mk [] Tryz.func352 (by kernel_rfl) ?_
  rw [partition_fst, partition_arr]
  have hsz : ∀ m i j (d : Array Int), j + 1 - i ≤ m → (partLoop ltInt a i j d).2.size = d.size := fun m => by
    induction m with
    | zero =>
      intro i j d h
      rw [partLoop_eq]
      have h1 := scanUp_ge (fun x => ltInt x d[a]!) d j i
      have h2 := scanDown_le (fun x => !ltInt x d[a]!) d (scanUp (fun x => ltInt x d[a]!) d j i) j
      rw [if_pos (by omega)]
    | succ m ih =>
      intro i j d h
      rw [partLoop_eq]
      split
      · rfl
      · rename_i hg
        have := partLoop_guard ltInt a i j d hg
        rw [ih _ _ _ (by omega), Go.Sort.swp_size]
  have hRs := hsz _ (a + 1) (b - 1) (swp d a pivot) (Nat.le_refl _)
  rw [Go.Sort.swp_size] at hRs
  generalize hR : partLoop ltInt a (a + 1) (b - 1) (swp d a pivot) = R at *
  refine idxI (pivot) (by omega) (by omega) ?_
  refine rdI (by omega) ?_
  refine idxI (a) (by omega) (by omega) ?_
  refine rdI (by omega) ?_
  refine idxI (a) (by omega) (by omega) ?_
  refine wrI (by omega) ?_
  refine idxI (pivot) (by omega) (by omega) ?_
  refine wrI (by simp; omega) ?_
  refine num_eq (x := ((a + 1 : Nat) : Int)) (by rw [wrap64 (by omega) (by omega)]; omega) ?_
  refine num_eq (x := ((b - 1 : Nat) : Int)) (by rw [wrap64 (by omega) (by omega)]; omega) ?_
  have hs : (swp d a pivot).size = n := by rw [Go.Sort.swp_size]; exact hd
  have hsw : swp d a pivot = (d.setIfInBounds a d[pivot]!).setIfInBounds pivot d[a]! := rfl
  rw [hsw] at hR hs
  generalize (d.setIfInBounds a d[pivot]!).setIfInBounds pivot d[a]! = d1 at *
  clear hsw hsz
  obtain ⟨i, hi⟩ : ∃ i, i = a + 1 := ⟨_, rfl⟩
  obtain ⟨j, hj⟩ : ∃ j, j = b - 1 := ⟨_, rfl⟩
  have hai : a < i := by omega
  have hij0 : i ≤ j + 2 := by omega
  have hjb : j < b := by omega
  rw [← hi, ← hj] at hR ⊢
  clear hi hj
  rw [partLoop_eq] at hR
  generalize hU : scanUp (fun x => ltInt x d1[a]!) d1 j i = U at *
  refine loop_intro (fun i' : Nat => i ≤ i' ∧ i' ≤ j + 2 ∧ scanUp (fun x => ltInt x d1[a]!) d1 j i' = U) (fun i' => ⟨[(0, .val (.slice (some ⟨r, 0, none⟩) n cap)), (1, .val (.int .i64 a)), (10, .val (.int .i64 i')), (11, .val (.int .i64 j))], [], 0, μ, RowI h0 r ty rest d1⟩) (fun i' => j + 1 - i')
    i ⟨by omega, by omega, hU⟩ (fun _ => ⟨rfl, rfl⟩) ⟨⟨rfl, rfl, rfl, rfl, trivial⟩, trivial, rfl, rfl⟩ ?_
  clear hU
  rintro i' ⟨h1, h2, hU⟩
  rw [scanUp] at hU
  refine ifd (fun hij => ?_) (fun hij => ?_)
  refine idxI (i') (by omega) (by omega) ?_
  refine rdI (by omega) ?_
  refine idxI (a) (by omega) (by omega) ?_
  refine rdI (by omega) ?_
  refine call_gives (Less_spec _ _) ?_
  refine if_intro (fun hl => ?_) (fun hl => ?_)
  · rw [if_pos (by simp only [Bool.and_eq_true, decide_eq_true_eq]; exact ⟨by omega, hl⟩)] at hU
    refine num_eq (x := ((i' + 1 : Nat) : Int)) (by rw [wrap64 (by omega) (by omega)]; omega) ?_
    exact ⟨i' + 1, ⟨by omega, by omega, hU⟩, by omega, ⟨⟨rfl, rfl, rfl, rfl, trivial⟩, trivial, rfl, rfl⟩⟩
  rw [if_neg (by simp only [Bool.and_eq_true, hl]; simp)] at hU
  rotate_left
  rw [if_neg (by simp; omega)] at hU
  obtain rfl := hU
  rotate_left
  obtain rfl := hU
  rotate_left
  all_goals
    generalize hV : scanDown (fun x => !ltInt x d1[a]!) d1 i' j = V at *
    refine loop_intro (fun j' : Nat => j' ≤ j ∧ 0 ≤ j' ∧ scanDown (fun x => !ltInt x d1[a]!) d1 i' j' = V) (fun j' => ⟨[(0, .val (.slice (some ⟨r, 0, none⟩) n cap)), (1, .val (.int .i64 a)), (10, .val (.int .i64 i')), (11, .val (.int .i64 j'))], [], 0, μ, RowI h0 r ty rest d1⟩) (fun j' => j')
      j ⟨by omega, by omega, hV⟩ (fun _ => ⟨rfl, rfl⟩) ⟨⟨rfl, rfl, rfl, rfl, trivial⟩, trivial, rfl, rfl⟩ ?_
    clear hV
    rintro j' ⟨g1, g2, hV⟩
    refine ifd (fun hij2 => ?_) (fun hij2 => ?_)
    obtain ⟨k, rfl⟩ : ∃ k, j' = k + 1 := ⟨j' - 1, by omega⟩
    rw [scanDown] at hV
    refine idxI (k + 1) (by omega) (by omega) ?_
    refine rdI (by omega) ?_
    refine idxI (a) (by omega) (by omega) ?_
    refine rdI (by omega) ?_
    refine call_gives (Less_spec _ _) ?_
    refine if_intro (fun hl => ?_) (fun hl => ?_)
    · rw [if_pos (by simp only [Bool.and_eq_true, decide_eq_true_eq]; exact ⟨by omega, hl⟩)] at hV
      refine num_eq (x := ((k : Nat) : Int)) (by rw [wrap64 (by omega) (by omega)]; omega) ?_
      exact ⟨k, ⟨by omega, by omega, hV⟩, by omega, ⟨⟨rfl, rfl, rfl, rfl, trivial⟩, trivial, rfl, rfl⟩⟩
    rw [if_neg (by simp only [Bool.and_eq_true, hl]; simp)] at hV
    obtain rfl := hV
    generalize k + 1 = j' at *
    rotate_left
    replace hV : j' = V := by
      cases j' with
      | zero => exact hV
      | succ k => rwa [scanDown, if_neg (by simp; omega)] at hV
    obtain rfl := hV
    rotate_left
  all_goals
    refine ifd (fun hgt => ?_) (fun hgt => ?_)
    · rw [if_pos (by omega)] at hR
      subst hR
      refine idxI (a) (by omega) (by omega) ?_
      refine rdI (by omega) ?_
      refine idxI (j') (by omega) (by omega) ?_
      refine rdI (by omega) ?_
      refine idxI (j') (by omega) (by omega) ?_
      refine wrI (by omega) ?_
      refine idxI (a) (by omega) (by omega) ?_
      refine wrI (by simp; omega) ?_
      exact ret_plain ⟨⟨_, rfl⟩, rfl, rfl⟩
    · rw [if_neg (by omega)] at hR
      refine idxI (j') (by omega) (by omega) ?_
      refine rdI (by omega) ?_
      refine idxI (i') (by omega) (by omega) ?_
      refine rdI (by omega) ?_
      refine idxI (i') (by omega) (by omega) ?_
      refine wrI (by omega) ?_
      refine idxI (j') (by omega) (by omega) ?_
      refine wrI (by simp; omega) ?_
      refine num_eq (x := ((i' + 1 : Nat) : Int)) (by rw [wrap64 (by omega) (by omega)]; omega) ?_
      refine num_eq (x := ((j' - 1 : Nat) : Int)) (by rw [wrap64 (by omega) (by omega)]; omega) ?_
      refine loop_intro (fun p : Nat × Nat × Array Int => a < p.1 ∧ p.1 ≤ p.2.1 + 2 ∧ p.2.1 < b ∧ p.2.2.size = n ∧ partLoop ltInt a p.1 p.2.1 p.2.2 = R)
        (fun (i, j, d) => ⟨[(0, .val (.slice (some ⟨r, 0, none⟩) n cap)), (1, .val (.int .i64 a)), (10, .val (.int .i64 i)), (11, .val (.int .i64 j))], [], 0, μ, RowI h0 r ty rest d⟩) (fun p => p.2.1 + 1 - p.1)
        (i' + 1, j' - 1, swp d1 i' j') ⟨by dsimp only; omega, by dsimp only; omega, by dsimp only; omega, by dsimp only; rw [Go.Sort.swp_size]; exact hs, hR⟩ (fun (_, _, _) => ⟨rfl, rfl⟩) ⟨⟨rfl, rfl, rfl, rfl, trivial⟩, trivial, rfl, rfl⟩ ?_
      clear hR hgt hs hai hij0 hjb h1 h2 g1 g2
      rintro ⟨i, j, d1⟩ ⟨hai, hij0, hjb, hs, hR⟩
      dsimp only at hai hij0 hjb hs hR
      rw [partLoop_eq] at hR
      generalize hU : scanUp (fun x => ltInt x d1[a]!) d1 j i = U at *
      refine loop_intro (fun i' : Nat => i ≤ i' ∧ i' ≤ j + 2 ∧ scanUp (fun x => ltInt x d1[a]!) d1 j i' = U) (fun i' => ⟨[(0, .val (.slice (some ⟨r, 0, none⟩) n cap)), (1, .val (.int .i64 a)), (10, .val (.int .i64 i')), (11, .val (.int .i64 j))], [], 0, μ, RowI h0 r ty rest d1⟩) (fun i' => j + 1 - i')
        i ⟨by omega, by omega, hU⟩ (fun _ => ⟨rfl, rfl⟩) ⟨⟨rfl, rfl, rfl, rfl, trivial⟩, trivial, rfl, rfl⟩ ?_
      clear hU
      rintro i' ⟨h1, h2, hU⟩
      rw [scanUp] at hU
      refine ifd (fun hij => ?_) (fun hij => ?_)
      refine idxI (i') (by omega) (by omega) ?_
      refine rdI (by omega) ?_
      refine idxI (a) (by omega) (by omega) ?_
      refine rdI (by omega) ?_
      refine call_gives (Less_spec _ _) ?_
      refine if_intro (fun hl => ?_) (fun hl => ?_)
      · rw [if_pos (by simp only [Bool.and_eq_true, decide_eq_true_eq]; exact ⟨by omega, hl⟩)] at hU
        refine num_eq (x := ((i' + 1 : Nat) : Int)) (by rw [wrap64 (by omega) (by omega)]; omega) ?_
        exact ⟨i' + 1, ⟨by omega, by omega, hU⟩, by omega, ⟨⟨rfl, rfl, rfl, rfl, trivial⟩, trivial, rfl, rfl⟩⟩
      rw [if_neg (by simp only [Bool.and_eq_true, hl]; simp)] at hU
      rotate_left
      rw [if_neg (by simp; omega)] at hU
      obtain rfl := hU
      rotate_left
      obtain rfl := hU
      rotate_left
      all_goals
        generalize hV : scanDown (fun x => !ltInt x d1[a]!) d1 i' j = V at *
        refine loop_intro (fun j' : Nat => j' ≤ j ∧ 0 ≤ j' ∧ scanDown (fun x => !ltInt x d1[a]!) d1 i' j' = V) (fun j' => ⟨[(0, .val (.slice (some ⟨r, 0, none⟩) n cap)), (1, .val (.int .i64 a)), (10, .val (.int .i64 i')), (11, .val (.int .i64 j'))], [], 0, μ, RowI h0 r ty rest d1⟩) (fun j' => j')
          j ⟨by omega, by omega, hV⟩ (fun _ => ⟨rfl, rfl⟩) ⟨⟨rfl, rfl, rfl, rfl, trivial⟩, trivial, rfl, rfl⟩ ?_
        clear hV
        rintro j' ⟨g1, g2, hV⟩
        refine ifd (fun hij2 => ?_) (fun hij2 => ?_)
        obtain ⟨k, rfl⟩ : ∃ k, j' = k + 1 := ⟨j' - 1, by omega⟩
        rw [scanDown] at hV
        refine idxI (k + 1) (by omega) (by omega) ?_
        refine rdI (by omega) ?_
        refine idxI (a) (by omega) (by omega) ?_
        refine rdI (by omega) ?_
        refine call_gives (Less_spec _ _) ?_
        refine if_intro (fun hl => ?_) (fun hl => ?_)
        · rw [if_pos (by simp only [Bool.and_eq_true, decide_eq_true_eq]; exact ⟨by omega, hl⟩)] at hV
          refine num_eq (x := ((k : Nat) : Int)) (by rw [wrap64 (by omega) (by omega)]; omega) ?_
          exact ⟨k, ⟨by omega, by omega, hV⟩, by omega, ⟨⟨rfl, rfl, rfl, rfl, trivial⟩, trivial, rfl, rfl⟩⟩
        rw [if_neg (by simp only [Bool.and_eq_true, hl]; simp)] at hV
        obtain rfl := hV
        generalize k + 1 = j' at *
        rotate_left
        replace hV : j' = V := by
          cases j' with
          | zero => exact hV
          | succ k => rwa [scanDown, if_neg (by simp; omega)] at hV
        obtain rfl := hV
        rotate_left
      all_goals
        refine ifd (fun hgt => ?_) (fun hgt => ?_)
        · rw [if_pos (by omega)] at hR
          subst hR
          refine idxI (a) (by omega) (by omega) ?_
          refine rdI (by omega) ?_
          refine idxI (j') (by omega) (by omega) ?_
          refine rdI (by omega) ?_
          refine idxI (j') (by omega) (by omega) ?_
          refine wrI (by omega) ?_
          refine idxI (a) (by omega) (by omega) ?_
          refine wrI (by simp; omega) ?_
          exact ret_plain ⟨⟨_, rfl⟩, rfl, rfl⟩
        · rw [if_neg (by omega)] at hR
          refine idxI (j') (by omega) (by omega) ?_
          refine rdI (by omega) ?_
          refine idxI (i') (by omega) (by omega) ?_
          refine rdI (by omega) ?_
          refine idxI (i') (by omega) (by omega) ?_
          refine wrI (by omega) ?_
          refine idxI (j') (by omega) (by omega) ?_
          refine wrI (by simp; omega) ?_
          refine num_eq (x := ((i' + 1 : Nat) : Int)) (by rw [wrap64 (by omega) (by omega)]; omega) ?_
          refine num_eq (x := ((j' - 1 : Nat) : Int)) (by rw [wrap64 (by omega) (by omega)]; omega) ?_
          exact ⟨(i' + 1, j' - 1, swp d1 i' j'), ⟨by dsimp only; omega, by dsimp only; omega, by dsimp only; omega, by dsimp only; rw [Go.Sort.swp_size]; exact hs, hR⟩, by dsimp only; omega, ⟨⟨rfl, rfl, rfl, rfl, trivial⟩, trivial, rfl, rfl⟩⟩
end
end Go.Vx

/- Contracts: a few steps of insertion. -/
namespace Go.Vx
open Go.Proofs Classical
open Go.Sort
section
variable {μ h0 : Mem} {r : Nat} {ty : TypeId} {rest : List Value} {d : Array Int}
set_option maxHeartbeats 8000000 in
theorem partialInsertionSort_spec {n a b : Nat} {cap : Nat} (hd : d.size = n) (ha : a < b) (hb : b ≤ n) (hn : n ≤ 1000000000000) :
    SpecH Tryz.prog 349 [.slice (some ⟨r, 0, none⟩) n cap, .int .i64 a, .int .i64 b] μ (RowI h0 r ty rest d) fun v μ' h' => v = .bool (partialInsertionSort ltInt d a b).2 ∧ μ' = μ ∧ h' = RowI h0 r ty rest (partialInsertionSort ltInt d a b).1 := by
  refine SpecH.mk [] Tryz.func349 (by kernel_rfl) ?_
  rw [partialInsertionSort]
  generalize hR : partialIns ltInt a b 5 (a + 1) d = R
  refine num_eq (x := ((a + 1 : Nat) : Int)) (by rw [wrap64 (by omega) (by omega)]; omega) ?_
  refine loop_intro (fun p : Nat × Nat × Array Int => p.1 ≤ 5 ∧ a < p.2.1 ∧ p.2.1 ≤ b ∧ p.2.2.size = n ∧ partialIns ltInt a b p.1 p.2.1 p.2.2 = R)
    (fun (t, i, d) => ⟨[(0, .val (.slice (some ⟨r, 0, none⟩) n cap)), (1, .val (.int .i64 a)), (2, .val (.int .i64 b)), (7, .val (.int .i64 i)), (8, .val (.int .i64 (5 - (t : Int))))], [], 0, μ, RowI h0 r ty rest d⟩) (fun p => p.1)
    (5, a + 1, d) ⟨by dsimp only; omega, by dsimp only; omega, by dsimp only; omega, hd, hR⟩ (fun (_, _, _) => ⟨rfl, rfl⟩) ⟨⟨rfl, rfl, rfl, rfl, rfl, trivial⟩, trivial, rfl, rfl⟩ ?_
  clear hR
  rintro ⟨t, i, d1⟩ ⟨ht, hai, hib, hs, hR⟩
  dsimp only at ht hai hib hs hR
  refine ifd (fun h5 => ?_) (fun h5 => ?_)
  rotate_left
  · obtain rfl : t = 0 := by omega
    rw [partialIns] at hR
    subst hR
    exact ret_plain ⟨rfl, rfl, rfl⟩
  obtain ⟨t, rfl⟩ : ∃ k, t = k + 1 := ⟨t - 1, by omega⟩
  rw [partialIns_succ] at hR
  generalize hS : scanSorted ltInt d1 b i = S at *
  refine loop_intro (fun i' : Nat => i ≤ i' ∧ i' ≤ b ∧ scanSorted ltInt d1 b i' = S) (fun i' => ⟨[(0, .val (.slice (some ⟨r, 0, none⟩) n cap)), (1, .val (.int .i64 a)), (2, .val (.int .i64 b)), (7, .val (.int .i64 i')), (8, .val (.int .i64 (5 - ((t + 1 : Nat) : Int))))], [], 0, μ, RowI h0 r ty rest d1⟩) (fun i' => b - i')
    i ⟨by omega, by omega, hS⟩ (fun _ => ⟨rfl, rfl⟩) ⟨⟨rfl, rfl, rfl, rfl, rfl, trivial⟩, trivial, rfl, rfl⟩ ?_
  clear hS
  rintro i' ⟨h1, h2, hS⟩
  rw [scanSorted] at hS
  refine ifd (fun hlt => ?_) (fun hlt => ?_)
  rotate_left
  · rw [if_neg (by simp; omega)] at hS
    obtain rfl := hS
    rw [if_pos (by omega)] at hR
    subst hR
    refine ifd (fun _ => ?_) (fun h => absurd (by omega) h)
    exact ret_plain ⟨rfl, rfl, rfl⟩
  refine idxI (i') (by omega) (by omega) ?_
  refine rdI (by omega) ?_
  refine num_eq (x := ((i' - 1 : Nat) : Int)) (by rw [wrap64 (by omega) (by omega)]; omega) ?_
  refine idxI (i' - 1) (by omega) (by omega) ?_
  refine rdI (by omega) ?_
  refine call_gives (Less_spec _ _) ?_
  refine if_intro (fun hl => ?_) (fun hl => ?_)
  · rw [if_pos (by simp only [Bool.and_eq_true, decide_eq_true_eq]; exact ⟨by omega, hl⟩)] at hS
    refine num_eq (x := ((i' + 1 : Nat) : Int)) (by rw [wrap64 (by omega) (by omega)]; omega) ?_
    exact ⟨i' + 1, ⟨by omega, by omega, hS⟩, by omega, ⟨⟨rfl, rfl, rfl, rfl, rfl, trivial⟩, trivial, rfl, rfl⟩⟩
  rw [if_neg (by simp only [Bool.and_eq_true, hl]; simp)] at hS
  obtain rfl := hS
  refine ifd (fun h => absurd h (by omega)) (fun _ => ?_)
  rw [if_neg (by omega)] at hR
  refine num_eq (x := ((b - a : Nat) : Int)) (by rw [wrap64 (by omega) (by omega)]; omega) ?_
  refine ifd (fun h50 => ?_) (fun h50 => ?_)
  · rw [if_pos (by omega)] at hR
    subst hR
    exact ret_plain ⟨rfl, rfl, rfl⟩
  rw [if_neg (by omega)] at hR
  refine num_eq (x := ((i' - 1 : Nat) : Int)) (by rw [wrap64 (by omega) (by omega)]; omega) ?_
  refine num_eq (x := ((i' - 1 : Nat) : Int)) (by rw [wrap64 (by omega) (by omega)]; omega) ?_
  refine idxI (i' - 1) (by omega) (by omega) ?_
  refine rdI (by omega) ?_
  refine idxI (i') (by omega) (by omega) ?_
  refine rdI (by omega) ?_
  refine idxI (i') (by omega) (by omega) ?_
  refine wrI (by omega) ?_
  refine idxI (i' - 1) (by omega) (by omega) ?_
  refine wrI (by simp; omega) ?_
  have hsw : swp d1 i' (i' - 1) = (d1.setIfInBounds i' d1[i' - 1]!).setIfInBounds (i' - 1) d1[i']! := rfl
  have hs2 : (swp d1 i' (i' - 1)).size = n := by rw [Go.Sort.swp_size]; exact hs
  rw [hsw] at hR hs2
  generalize (d1.setIfInBounds i' d1[i' - 1]!).setIfInBounds (i' - 1) d1[i']! = d2 at *
  clear hsw
  refine num_eq (x := ((i' - a : Nat) : Int)) (by rw [wrap64 (by omega) (by omega)]; omega) ?_
  unfold fixDown at hR
  refine ifd (fun hd2 => ?_) (fun hd2 => ?_)
  · rw [if_pos (by omega)] at hR
    refine num_eq (x := ((i' - 1 : Nat) : Int)) (by rw [wrap64 (by omega) (by omega)]; omega) ?_
    generalize hD : shiftDown ltInt (i' - 1) d2 = D2 at *
    refine loop_intro (fun p : Nat × Array Int => p.1 ≤ i' - 1 ∧ p.2.size = n ∧ shiftDown ltInt p.1 p.2 = D2) (fun (j, d) => ⟨[(0, .val (.slice (some ⟨r, 0, none⟩) n cap)), (1, .val (.int .i64 a)), (2, .val (.int .i64 b)), (7, .val (.int .i64 i')), (8, .val (.int .i64 (5 - ((t + 1 : Nat) : Int)))), (9, .val (.int .i64 j))], [], 0, μ, RowI h0 r ty rest d⟩) (fun p => p.1)
      (i' - 1, d2) ⟨by dsimp only; omega, hs2, hD⟩ (fun (_, _) => ⟨rfl, rfl⟩) ⟨⟨rfl, rfl, rfl, rfl, rfl, rfl, trivial⟩, trivial, rfl, rfl⟩ ?_
    clear hD
    rintro ⟨j, d3⟩ ⟨hj, hs3, hD⟩
    dsimp only at hj hs3 hD
    refine ifd (fun hj1 => ?_) (fun hj1 => ?_)
    · obtain ⟨k, rfl⟩ : ∃ k, j = k + 1 := ⟨j - 1, by omega⟩
      rw [shiftDown] at hD
      refine idxI (k + 1) (by omega) (by omega) ?_
      refine rdI (by omega) ?_
      refine num_eq (x := ((k : Nat) : Int)) (by rw [wrap64 (by omega) (by omega)]; omega) ?_
      refine idxI (k) (by omega) (by omega) ?_
      refine rdI (by omega) ?_
      refine call_gives (Less_spec _ _) ?_
      refine if_intro (fun hl2 => ?_) (fun hl2 => ?_)
      · rw [if_pos hl2] at hD
        obtain rfl := hD
        refine num_eq (x := ((b - i' : Nat) : Int)) (by rw [wrap64 (by omega) (by omega)]; omega) ?_
        unfold fixUp at hR
        refine ifd (fun hu2 => ?_) (fun hu2 => ?_)
        · rw [if_pos (by omega)] at hR
          refine num_eq (x := ((i' + 1 : Nat) : Int)) (by rw [wrap64 (by omega) (by omega)]; omega) ?_
          generalize hE : shiftUp ltInt b (i' + 1) d3 = D4 at *
          refine loop_intro (fun p : Nat × Array Int => i' + 1 ≤ p.1 ∧ p.1 ≤ b + 1 ∧ p.2.size = n ∧ shiftUp ltInt b p.1 p.2 = D4) (fun (j, d) => ⟨[(0, .val (.slice (some ⟨r, 0, none⟩) n cap)), (1, .val (.int .i64 a)), (2, .val (.int .i64 b)), (7, .val (.int .i64 i')), (8, .val (.int .i64 (5 - ((t + 1 : Nat) : Int)))), (10, .val (.int .i64 j))], [], 0, μ, RowI h0 r ty rest d⟩) (fun p => b - p.1)
            (i' + 1, d3) ⟨by dsimp only; omega, by dsimp only; omega, hs3, hE⟩ (fun (_, _) => ⟨rfl, rfl⟩) ⟨⟨rfl, rfl, rfl, rfl, rfl, rfl, trivial⟩, trivial, rfl, rfl⟩ ?_
          clear hE
          rintro ⟨j2, d5⟩ ⟨hj2, hjb2, hs5, hE⟩
          dsimp only at hj2 hjb2 hs5 hE
          rw [shiftUp] at hE
          refine ifd (fun hj1 => ?_) (fun hj1 => ?_)
          · rw [if_pos (by omega)] at hE
            refine idxI (j2) (by omega) (by omega) ?_
            refine rdI (by omega) ?_
            refine num_eq (x := ((j2 - 1 : Nat) : Int)) (by rw [wrap64 (by omega) (by omega)]; omega) ?_
            refine idxI (j2 - 1) (by omega) (by omega) ?_
            refine rdI (by omega) ?_
            refine call_gives (Less_spec _ _) ?_
            refine if_intro (fun hl3 => ?_) (fun hl3 => ?_)
            · rw [if_pos hl3] at hE
              obtain rfl := hE
              refine num_eq (x := 5 - (t : Int)) (by rw [wrap64 (by omega) (by omega)]; omega) ?_
              exact ⟨(t, i', d5), ⟨by dsimp only; omega, by dsimp only; omega, by dsimp only; omega, hs5, hR⟩, by dsimp only; omega, ⟨⟨rfl, rfl, rfl, rfl, rfl, trivial⟩, trivial, rfl, rfl⟩⟩
            · rw [if_neg (by simp only [hl3]; simp)] at hE
              refine num_eq (x := ((j2 - 1 : Nat) : Int)) (by rw [wrap64 (by omega) (by omega)]; omega) ?_
              refine num_eq (x := ((j2 - 1 : Nat) : Int)) (by rw [wrap64 (by omega) (by omega)]; omega) ?_
              refine idxI (j2 - 1) (by omega) (by omega) ?_
              refine rdI (by omega) ?_
              refine idxI (j2) (by omega) (by omega) ?_
              refine rdI (by omega) ?_
              refine idxI (j2) (by omega) (by omega) ?_
              refine wrI (by omega) ?_
              refine idxI (j2 - 1) (by omega) (by omega) ?_
              refine wrI (by simp; omega) ?_
              refine num_eq (x := ((j2 + 1 : Nat) : Int)) (by rw [wrap64 (by omega) (by omega)]; omega) ?_
              exact ⟨(j2 + 1, swp d5 j2 (j2 - 1)), ⟨by dsimp only; omega, by dsimp only; omega, by dsimp only; rw [Go.Sort.swp_size]; exact hs5, hE⟩, by dsimp only; omega, ⟨⟨rfl, rfl, rfl, rfl, rfl, rfl, trivial⟩, trivial, rfl, rfl⟩⟩
          · rw [if_neg (by omega)] at hE
            obtain rfl := hE
            refine num_eq (x := 5 - (t : Int)) (by rw [wrap64 (by omega) (by omega)]; omega) ?_
            exact ⟨(t, i', d5), ⟨by dsimp only; omega, by dsimp only; omega, by dsimp only; omega, hs5, hR⟩, by dsimp only; omega, ⟨⟨rfl, rfl, rfl, rfl, rfl, trivial⟩, trivial, rfl, rfl⟩⟩
        · rw [if_neg (by omega)] at hR
          refine num_eq (x := 5 - (t : Int)) (by rw [wrap64 (by omega) (by omega)]; omega) ?_
          exact ⟨(t, i', d3), ⟨by dsimp only; omega, by dsimp only; omega, by dsimp only; omega, hs3, hR⟩, by dsimp only; omega, ⟨⟨rfl, rfl, rfl, rfl, rfl, trivial⟩, trivial, rfl, rfl⟩⟩
      · rw [if_neg (by simp only [hl2]; simp)] at hD
        refine num_eq (x := ((k : Nat) : Int)) (by rw [wrap64 (by omega) (by omega)]; omega) ?_
        refine num_eq (x := ((k : Nat) : Int)) (by rw [wrap64 (by omega) (by omega)]; omega) ?_
        refine idxI (k) (by omega) (by omega) ?_
        refine rdI (by omega) ?_
        refine idxI (k + 1) (by omega) (by omega) ?_
        refine rdI (by omega) ?_
        refine idxI (k + 1) (by omega) (by omega) ?_
        refine wrI (by omega) ?_
        refine idxI (k) (by omega) (by omega) ?_
        refine wrI (by simp; omega) ?_
        refine num_eq (x := ((k : Nat) : Int)) (by rw [wrap64 (by omega) (by omega)]; omega) ?_
        exact ⟨(k, swp d3 (k + 1) k), ⟨by dsimp only; omega, by dsimp only; rw [Go.Sort.swp_size]; exact hs3, hD⟩, by dsimp only; omega, ⟨⟨rfl, rfl, rfl, rfl, rfl, rfl, trivial⟩, trivial, rfl, rfl⟩⟩
    · obtain rfl : j = 0 := by omega
      have hD : d3 = D2 := hD
      obtain rfl := hD
      refine num_eq (x := ((b - i' : Nat) : Int)) (by rw [wrap64 (by omega) (by omega)]; omega) ?_
      unfold fixUp at hR
      refine ifd (fun hu2 => ?_) (fun hu2 => ?_)
      · rw [if_pos (by omega)] at hR
        refine num_eq (x := ((i' + 1 : Nat) : Int)) (by rw [wrap64 (by omega) (by omega)]; omega) ?_
        generalize hE : shiftUp ltInt b (i' + 1) d3 = D4 at *
        refine loop_intro (fun p : Nat × Array Int => i' + 1 ≤ p.1 ∧ p.1 ≤ b + 1 ∧ p.2.size = n ∧ shiftUp ltInt b p.1 p.2 = D4) (fun (j, d) => ⟨[(0, .val (.slice (some ⟨r, 0, none⟩) n cap)), (1, .val (.int .i64 a)), (2, .val (.int .i64 b)), (7, .val (.int .i64 i')), (8, .val (.int .i64 (5 - ((t + 1 : Nat) : Int)))), (10, .val (.int .i64 j))], [], 0, μ, RowI h0 r ty rest d⟩) (fun p => b - p.1)
          (i' + 1, d3) ⟨by dsimp only; omega, by dsimp only; omega, hs3, hE⟩ (fun (_, _) => ⟨rfl, rfl⟩) ⟨⟨rfl, rfl, rfl, rfl, rfl, rfl, trivial⟩, trivial, rfl, rfl⟩ ?_
        clear hE
        rintro ⟨j2, d5⟩ ⟨hj2, hjb2, hs5, hE⟩
        dsimp only at hj2 hjb2 hs5 hE
        rw [shiftUp] at hE
        refine ifd (fun hj1 => ?_) (fun hj1 => ?_)
        · rw [if_pos (by omega)] at hE
          refine idxI (j2) (by omega) (by omega) ?_
          refine rdI (by omega) ?_
          refine num_eq (x := ((j2 - 1 : Nat) : Int)) (by rw [wrap64 (by omega) (by omega)]; omega) ?_
          refine idxI (j2 - 1) (by omega) (by omega) ?_
          refine rdI (by omega) ?_
          refine call_gives (Less_spec _ _) ?_
          refine if_intro (fun hl3 => ?_) (fun hl3 => ?_)
          · rw [if_pos hl3] at hE
            obtain rfl := hE
            refine num_eq (x := 5 - (t : Int)) (by rw [wrap64 (by omega) (by omega)]; omega) ?_
            exact ⟨(t, i', d5), ⟨by dsimp only; omega, by dsimp only; omega, by dsimp only; omega, hs5, hR⟩, by dsimp only; omega, ⟨⟨rfl, rfl, rfl, rfl, rfl, trivial⟩, trivial, rfl, rfl⟩⟩
          · rw [if_neg (by simp only [hl3]; simp)] at hE
            refine num_eq (x := ((j2 - 1 : Nat) : Int)) (by rw [wrap64 (by omega) (by omega)]; omega) ?_
            refine num_eq (x := ((j2 - 1 : Nat) : Int)) (by rw [wrap64 (by omega) (by omega)]; omega) ?_
            refine idxI (j2 - 1) (by omega) (by omega) ?_
            refine rdI (by omega) ?_
            refine idxI (j2) (by omega) (by omega) ?_
            refine rdI (by omega) ?_
            refine idxI (j2) (by omega) (by omega) ?_
            refine wrI (by omega) ?_
            refine idxI (j2 - 1) (by omega) (by omega) ?_
            refine wrI (by simp; omega) ?_
            refine num_eq (x := ((j2 + 1 : Nat) : Int)) (by rw [wrap64 (by omega) (by omega)]; omega) ?_
            exact ⟨(j2 + 1, swp d5 j2 (j2 - 1)), ⟨by dsimp only; omega, by dsimp only; omega, by dsimp only; rw [Go.Sort.swp_size]; exact hs5, hE⟩, by dsimp only; omega, ⟨⟨rfl, rfl, rfl, rfl, rfl, rfl, trivial⟩, trivial, rfl, rfl⟩⟩
        · rw [if_neg (by omega)] at hE
          obtain rfl := hE
          refine num_eq (x := 5 - (t : Int)) (by rw [wrap64 (by omega) (by omega)]; omega) ?_
          exact ⟨(t, i', d5), ⟨by dsimp only; omega, by dsimp only; omega, by dsimp only; omega, hs5, hR⟩, by dsimp only; omega, ⟨⟨rfl, rfl, rfl, rfl, rfl, trivial⟩, trivial, rfl, rfl⟩⟩
      · rw [if_neg (by omega)] at hR
        refine num_eq (x := 5 - (t : Int)) (by rw [wrap64 (by omega) (by omega)]; omega) ?_
        exact ⟨(t, i', d3), ⟨by dsimp only; omega, by dsimp only; omega, by dsimp only; omega, hs3, hR⟩, by dsimp only; omega, ⟨⟨rfl, rfl, rfl, rfl, rfl, trivial⟩, trivial, rfl, rfl⟩⟩
  · rw [if_neg (by omega)] at hR
    refine num_eq (x := ((b - i' : Nat) : Int)) (by rw [wrap64 (by omega) (by omega)]; omega) ?_
    unfold fixUp at hR
    refine ifd (fun hu2 => ?_) (fun hu2 => ?_)
    · rw [if_pos (by omega)] at hR
      refine num_eq (x := ((i' + 1 : Nat) : Int)) (by rw [wrap64 (by omega) (by omega)]; omega) ?_
      generalize hE : shiftUp ltInt b (i' + 1) d2 = D4 at *
      refine loop_intro (fun p : Nat × Array Int => i' + 1 ≤ p.1 ∧ p.1 ≤ b + 1 ∧ p.2.size = n ∧ shiftUp ltInt b p.1 p.2 = D4) (fun (j, d) => ⟨[(0, .val (.slice (some ⟨r, 0, none⟩) n cap)), (1, .val (.int .i64 a)), (2, .val (.int .i64 b)), (7, .val (.int .i64 i')), (8, .val (.int .i64 (5 - ((t + 1 : Nat) : Int)))), (10, .val (.int .i64 j))], [], 0, μ, RowI h0 r ty rest d⟩) (fun p => b - p.1)
        (i' + 1, d2) ⟨by dsimp only; omega, by dsimp only; omega, hs2, hE⟩ (fun (_, _) => ⟨rfl, rfl⟩) ⟨⟨rfl, rfl, rfl, rfl, rfl, rfl, trivial⟩, trivial, rfl, rfl⟩ ?_
      clear hE
      rintro ⟨j2, d5⟩ ⟨hj2, hjb2, hs5, hE⟩
      dsimp only at hj2 hjb2 hs5 hE
      rw [shiftUp] at hE
      refine ifd (fun hj1 => ?_) (fun hj1 => ?_)
      · rw [if_pos (by omega)] at hE
        refine idxI (j2) (by omega) (by omega) ?_
        refine rdI (by omega) ?_
        refine num_eq (x := ((j2 - 1 : Nat) : Int)) (by rw [wrap64 (by omega) (by omega)]; omega) ?_
        refine idxI (j2 - 1) (by omega) (by omega) ?_
        refine rdI (by omega) ?_
        refine call_gives (Less_spec _ _) ?_
        refine if_intro (fun hl3 => ?_) (fun hl3 => ?_)
        · rw [if_pos hl3] at hE
          obtain rfl := hE
          refine num_eq (x := 5 - (t : Int)) (by rw [wrap64 (by omega) (by omega)]; omega) ?_
          exact ⟨(t, i', d5), ⟨by dsimp only; omega, by dsimp only; omega, by dsimp only; omega, hs5, hR⟩, by dsimp only; omega, ⟨⟨rfl, rfl, rfl, rfl, rfl, trivial⟩, trivial, rfl, rfl⟩⟩
        · rw [if_neg (by simp only [hl3]; simp)] at hE
          refine num_eq (x := ((j2 - 1 : Nat) : Int)) (by rw [wrap64 (by omega) (by omega)]; omega) ?_
          refine num_eq (x := ((j2 - 1 : Nat) : Int)) (by rw [wrap64 (by omega) (by omega)]; omega) ?_
          refine idxI (j2 - 1) (by omega) (by omega) ?_
          refine rdI (by omega) ?_
          refine idxI (j2) (by omega) (by omega) ?_
          refine rdI (by omega) ?_
          refine idxI (j2) (by omega) (by omega) ?_
          refine wrI (by omega) ?_
          refine idxI (j2 - 1) (by omega) (by omega) ?_
          refine wrI (by simp; omega) ?_
          refine num_eq (x := ((j2 + 1 : Nat) : Int)) (by rw [wrap64 (by omega) (by omega)]; omega) ?_
          exact ⟨(j2 + 1, swp d5 j2 (j2 - 1)), ⟨by dsimp only; omega, by dsimp only; omega, by dsimp only; rw [Go.Sort.swp_size]; exact hs5, hE⟩, by dsimp only; omega, ⟨⟨rfl, rfl, rfl, rfl, rfl, rfl, trivial⟩, trivial, rfl, rfl⟩⟩
      · rw [if_neg (by omega)] at hE
        obtain rfl := hE
        refine num_eq (x := 5 - (t : Int)) (by rw [wrap64 (by omega) (by omega)]; omega) ?_
        exact ⟨(t, i', d5), ⟨by dsimp only; omega, by dsimp only; omega, by dsimp only; omega, hs5, hR⟩, by dsimp only; omega, ⟨⟨rfl, rfl, rfl, rfl, rfl, trivial⟩, trivial, rfl, rfl⟩⟩
    · rw [if_neg (by omega)] at hR
      refine num_eq (x := 5 - (t : Int)) (by rw [wrap64 (by omega) (by omega)]; omega) ?_
      exact ⟨(t, i', d2), ⟨by dsimp only; omega, by dsimp only; omega, by dsimp only; omega, hs2, hR⟩, by dsimp only; omega, ⟨⟨rfl, rfl, rfl, rfl, rfl, trivial⟩, trivial, rfl, rfl⟩⟩
end
end Go.Vx

