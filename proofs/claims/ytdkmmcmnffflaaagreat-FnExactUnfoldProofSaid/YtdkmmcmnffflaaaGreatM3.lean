/- Texts of the proof, part M3. -/
import Derived.Sort.AssemblyPlain
import Derived.Test.YtdkmmcmnffflaaaGreatM2
namespace Go.Vx
open Go.Proofs Classical
inductive Tm where
 | mk (kind num : Int) (name : ByteArray) (args : List Tm)
theorem Tm.ind {p : Tm → Prop} (h : ∀ k n s l, (∀ t ∈ l, p t) → p (.mk k n s l)) : ∀ t, p t
 | .mk k n s l => h k n s l fun t _ => Tm.ind h t
mutual
def Tm.d : Tm → D
 | .mk k n s l => .st [.i k, .i n, .s s, .sl 4 (Tm.ds l)]
def Tm.ds : List Tm → List D
 | [] => []
 | t :: r => t.d :: Tm.ds r
end
theorem Tm.ds_map : ∀ l : List Tm, Tm.ds l = l.map Tm.d
 | [] => rfl
 | t :: r => by simp [Tm.ds, Tm.ds_map r]
theorem Tm.d_mk (k n : Int) (s : ByteArray) (l : List Tm) : (Tm.mk k n s l).d = .st [.i k, .i n, .s s, .sl 4 (l.map Tm.d)] := by rw [Tm.d, Tm.ds_map]
theorem Tm.d_n (t : Tm) : t.d.n = 4 := by cases t; rfl
def Tm.kind : Tm → Int | .mk k _ _ _ => k
def Tm.num : Tm → Int | .mk _ n _ _ => n
def Tm.name : Tm → ByteArray | .mk _ _ s _ => s
def Tm.args : Tm → List Tm | .mk _ _ _ l => l
def Tm.cs (t : Tm) (p : Option Addr × Nat) : List Value := [.int .i64 t.kind, .int .i64 t.num, .string t.name, .slice p.1 t.args.length p.2]
section
variable {μ : Mem}
theorem Tm.invS {k n : Int} {s : ByteArray} {l : List Tm} {cs : List Value} (h : Rep μ (Tm.mk k n s l).d cs) : ∃ base cap, cs = [.int .i64 k, .int .i64 n, .string s, .slice base l.length cap] ∧ Sl μ 4 base l.length (l.map Tm.d) := by
 rw [Tm.d_mk] at h
 obtain ⟨c1, c2, rfl, rfl, c3, c4, rfl, rfl, c5, c6, rfl, rfl, c7, c8, rfl, h4, rfl⟩ := h
 have hl := Rep.len _ _ h4
 match c7, hl with
 | [v], _ =>
  obtain ⟨base, cap, rfl, hsl⟩ := h4.sl
  rw [List.length_map] at hsl
  exact ⟨base, cap, by simp, hsl⟩
theorem Tm.inv {k n : Int} {s : ByteArray} {l : List Tm} {v : Value} (h : RepV μ (Tm.mk k n s l).d v) : ∃ base cap, v = .agg #[.int .i64 k, .int .i64 n, .string s, .slice base l.length cap] ∧ Sl μ 4 base l.length (l.map Tm.d) := by
 have h' : ∃ cs, v = .agg (List.toArray cs) ∧ Rep μ (Tm.mk k n s l).d cs := by rw [Tm.d_mk] at h ⊢; exact h
 obtain ⟨cs, e, h2⟩ := h'
 have w_ := Tm.invS h2
 obtain ⟨base, cap, e2, hsl⟩ := w_
 exact ⟨base, cap, by rw [e, e2], hsl⟩
theorem Tm.rep {t : Tm} {cs : List Value} (h : Rep μ t.d cs) : RepV μ t.d (.agg cs.toArray) := by
 cases t; rw [Tm.d_mk] at h ⊢; exact ⟨cs, rfl, h⟩
theorem Tm.invV {t : Tm} {v : Value} (h : RepV μ t.d v) : ∃ p : Option Addr × Nat, v = .agg #[.int .i64 t.kind, .int .i64 t.num, .string t.name, .slice p.1 t.args.length p.2] := by
 cases t; obtain ⟨b, c, h, _⟩ := Tm.inv h; exact ⟨(b, c), h⟩
theorem Tm.elem {l : List Tm} {base : Option Addr} {n : Nat} (h : Sl μ 4 base n (l.map Tm.d)) {i : Nat} {t : Tm} (ht : l[i]? = some t) : ∃ ad, ∃ p : Option Addr × Nat, ElemAt μ base n 4 i ad (t.cs p) ∧ RepV μ t.d (.agg (t.cs p).toArray) := by
 have w_ := h.get i t.d (by simp [ht])
 obtain ⟨ad, cs, h1, h2⟩ := w_
 have h3 := Tm.rep h2
 cases t with
 | mk k n s l =>
  have w_ := Tm.invS h2
  obtain ⟨b, c, rfl, hsl⟩ := w_
  exact ⟨ad, (b, c), h1, h3⟩
theorem szTermS_of {l : List Tm} (he : ∀ t ∈ l, ∀ {v : Value} {left : Int}, RepV μ t.d v → 0 ≤ left → left ≤ 1048576 → t.d.wd → Gives Tryz.prog 17 [v, .int .i64 left] μ (.int .i64 (szR left t.d.sz)))
  {base : Option Addr} {cap : Nat} {left : Int} (hsl : Sl μ 4 base l.length (l.map Tm.d)) (hl : 0 ≤ left) (hl2 : left ≤ 1048576) (hw : D.wds (l.map Tm.d)) :
  Gives Tryz.prog 38 [.slice base l.length cap, .int .i64 left] μ (.int .i64 (szR left (l.length + D.szs (l.map Tm.d)))) := by
 have hn := maxLen_le hsl.max
 refine Spec.mk Tryz.func38 (by kernel_rfl) ?_
 refine num64 (by omega) (by omega) (ifd (fun h => rGv ?_ rfl) (fun h => ?_))
 ·rw [szR_neg (by omega)]
 refine lIn (fun i : Nat => i ≤ l.length ∧ (D.szs ((l.map Tm.d).take i) : Int) ≤ left - l.length) (fun i => ⟨[(0, .val (.slice base l.length cap)), (1, .val (.int .i64 (left - l.length - D.szs ((l.map Tm.d).take i)))), (5, .val (.int .i64 i))], [], 0, μ, Mem.nil⟩) (fun i => l.length - i)
  0 ⟨by omega, by simp [D.szs]; omega⟩ (fun i => ⟨rfl, rfl⟩) ⟨⟨rfl, by show some (SV.val (.int .i64 _)) = some (SV.val (.int .i64 _)); congr 3; simp [D.szs], rfl, trivial⟩, trivial, rfl, rfl⟩ ?_
 rintro i ⟨hi, hz⟩
 refine ifd (fun h => ?_) (fun h => ?_)
 ·obtain ⟨t, ht⟩ := aSo (l := l) (i := i) (by omega)
  have hx := at_map (f := Tm.d) ht
  have hs := D.szs_take hx
  have hs' := D.szs_le (l.map Tm.d) (i + 1)
  obtain ⟨ad, p, hel, hr⟩ := Tm.elem hsl ht
  refine eIn hel (cGv (he t (mAt ht) hr (by omega) (by omega) (D.wds_mem hw _ (mAt hx))) ?_)
  refine ifd (fun h => rGv ?_ rfl) (fun h => ?_)
  ·have := szR_lt h
   rw [szR_neg (by omega)]
  ·have := szR_ge h
   refine num64 (by omega) (by omega) ⟨i + 1, ⟨by omega, by omega⟩, by omega, ⟨⟨rfl, ?_, rfl, trivial⟩, trivial, rfl, rfl⟩⟩
   rw [szR_pos this, hs]
   show some (SV.val (.int .i64 _)) = some (SV.val (.int .i64 _))
   congr 3; omega
 ·obtain rfl : i = l.length := by omega
  rw [List.take_of_length_le (by simp)] at hz ⊢
  refine rGv ?_ rfl
  rw [szR_pos (by omega)]; congr 1; omega
theorem szTerm_spec : ∀ (t : Tm) {v : Value} {left : Int}, RepV μ t.d v → 0 ≤ left → left ≤ 1048576 → t.d.wd → Gives Tryz.prog 17 [v, .int .i64 left] μ (.int .i64 (szR left t.d.sz)) :=
 Tm.ind fun k n s l ih v left hv hl hl2 hw => by
  have w_ := Tm.inv hv
  obtain ⟨base, cap, rfl, hsl⟩ := w_
  have hd := Tm.d_mk k n s l
  have hsz : (Tm.mk k n s l).d.sz = s.size + (l.length + D.szs (l.map Tm.d)) := by rw [hd]; simp [D.sz, D.szs]
  rw [hd] at hw
  have h1 : s.size ≤ maxLen := hw.2.2.1
  have h1 := maxLen_le h1
  refine Spec.mk Tryz.func17 (by kernel_rfl) ?_
  intro r
  refine num64 (by omega) (by omega) (ifd (fun h => rGv ?_ rfl) (fun h => ?_))
  ·rw [szR_neg (by omega)]
  refine cGv (szTermS_of (l := l) (fun t ht _ _ => ih t ht) hsl (by omega) (by omega) hw.2.2.2.1) ?_
  refine ifd (fun h => rGv ?_ rfl) (fun h => rGv ?_ rfl)
  ·have := szR_lt h
   rw [szR_neg (by omega)]
  ·have := szR_ge h
   rw [szR_pos this, szR_pos (by omega)]
   congr 1; omega
theorem szTermS_spec {l : List Tm} {base : Option Addr} {cap : Nat} {left : Int} (hsl : Sl μ 4 base l.length (l.map Tm.d)) (hl : 0 ≤ left) (hl2 : left ≤ 1048576) (hw : D.wds (l.map Tm.d)) :
  Gives Tryz.prog 38 [.slice base l.length cap, .int .i64 left] μ (.int .i64 (szR left (l.length + D.szs (l.map Tm.d)))) := szTermS_of (fun t _ _ _ => szTerm_spec t) hsl hl hl2 hw
theorem toTermS_of {l : List Tm} (he : ∀ t ∈ l, ∀ {μ : Mem} {v : Value}, RepV μ t.d v → t.d.sz ≤ 1048576 → Spec Tryz.prog 20 [v] μ fun v μ' => Fresh μ μ' t.d v)
  {base : Option Addr} {cap : Nat} (hsl : Sl μ 4 base l.length (l.map Tm.d)) (hb : l.length + D.szs (l.map Tm.d) ≤ 1048576) :
  Spec Tryz.prog 40 [.slice base l.length cap] μ fun v μ' => Fresh μ μ' (.sl 4 (l.map Tm.d)) v := by
 refine Spec.mk Tryz.func40 (by kernel_rfl) ?_
 refine make_intro l.length rfl rfl (by simp only; omega) (Nat.le_trans (m := 1048576) (by omega) (by decide)) ?_
 intro r
 refine lIn (fun p : Nat × List Value × Mem => μ.Le p.2.2 ∧ ∃ g, Filled 4 (.agg #[.int .i64 0, .int .i64 0, .string ⟨#[]⟩, .slice none 0 0]) μ p.2.2 (l.map Tm.d) p.1 p.2.1 g)
  (fun (i, xs, μ') => ⟨[(0, .val (.slice base l.length cap)), (3, .row 0 (some r) l.length l.length), (4, .val (.int .i64 i))], [(0, some (.row (some r) l.length 50 4 xs))], 1, μ', Mem.nil⟩) (fun p => l.length - p.1)
  (0, List.replicate l.length (.agg #[.int .i64 0, .int .i64 0, .string ⟨#[]⟩, .slice none 0 0]), μ) ⟨Mem.Le.refl μ, _, Filled.start (by simp)⟩ (fun (_, _, _) => ⟨rfl, rfl⟩) ⟨⟨rfl, rfl, rfl, trivial⟩, ⟨rfl, trivial⟩, rfl, rfl⟩ ?_
 rintro ⟨i, xs, μ'⟩ ⟨hle, g, hf⟩
 dsimp only at hle hf
 have hi := hf.le
 have hlen := hf.len
 rw [List.length_map] at hi hlen
 refine ifd (fun h => ?_) (fun h => ?_)
 ·obtain ⟨t, ht⟩ := aSo (l := l) (i := i) (by omega)
  have hx := at_map (f := Tm.d) ht
  have hs := D.szs_mem hx
  obtain ⟨ad, p, hel, hr⟩ := Tm.elem (hsl.mono hle) ht
  refine eIn hel (cPl (he t (mAt ht) hr (by omega)) fun v μ'' hle2 hfr => ?_)
  obtain ⟨g', hf'⟩ := hf.step hx (Tm.d_n t) hfr hle2
  obtain ⟨p2, rfl⟩ := Tm.invV hfr.rep
  refine rel_intro i rfl (by omega) ?_
  refine get_intro _ (hf.rest i (by omega) (by simpa using h)) ?_
  refine num64 (by omega) (by omega) ⟨(i + 1, _, μ''), ⟨hle.trans hle2, g', hf'⟩, by dsimp only; omega, ⟨⟨rfl, rfl, rfl, trivial⟩, ⟨rfl, trivial⟩, rfl, rfl⟩⟩
 ·obtain rfl : i = l.length := by omega
  refine rFz [0] fun μ2 hle2 hno hrow => .inl ?_
  have := Fresh.ofRow (hf.all (by simp)) hf.sub hf.new hle hle2 hno hrow (Nat.le_trans (m := 1048576) (by omega) (by decide))
  rw [hlen] at this
  exact this
theorem toTerm_spec : ∀ (t : Tm) {μ : Mem} {v : Value}, RepV μ t.d v → t.d.sz ≤ 1048576 → Spec Tryz.prog 20 [v] μ fun v μ' => Fresh μ μ' t.d v :=
 Tm.ind fun k n s l ih μ v hv hb => by
  have w_ := Tm.inv hv
  obtain ⟨base, cap, rfl, hsl⟩ := w_
  have hd := Tm.d_mk k n s l
  have hsz : (Tm.mk k n s l).d.sz = s.size + (l.length + D.szs (l.map Tm.d)) := by rw [hd]; simp [D.sz, D.szs]
  refine Spec.mk Tryz.func20 (by kernel_rfl) ?_
  intro r1 r2 r3
  refine cPl (toTermS_of (l := l) (fun t ht _ _ => ih t ht) hsl (by omega)) fun v μ' hle hf => ?_
  obtain ⟨h, h1, h2, h3⟩ := hf
  have w_ := OwnV.slice h1
  obtain ⟨base', cap', rfl⟩ := w_
  rw [hd]
  exact rPl ⟨h, ⟨_, rfl, OwnS.int (OwnS.int (OwnS.str (OwnS.last h1)))⟩, h2, h3⟩
theorem toTermS_spec {l : List Tm} {base : Option Addr} {cap : Nat} (hsl : Sl μ 4 base l.length (l.map Tm.d)) (hb : l.length + D.szs (l.map Tm.d) ≤ 1048576) :
  Spec Tryz.prog 40 [.slice base l.length cap] μ fun v μ' => Fresh μ μ' (.sl 4 (l.map Tm.d)) v := toTermS_of (fun t _ _ _ => toTerm_spec t) hsl hb
theorem eqTermS_of {l : List Tm} (he : ∀ t ∈ l, ∀ {v v' : Value}, RepV μ t.d v → RepV μ t.d v' → Gives Tryz.prog 23 [v, v'] μ (.bool true))
  {base base' : Option Addr} {cap cap' : Nat} (hl : Sl μ 4 base l.length (l.map Tm.d)) (hl' : Sl μ 4 base' l.length (l.map Tm.d)) :
  Gives Tryz.prog 43 [.slice base l.length cap, .slice base' l.length cap'] μ (.bool true) := by
 have hn := maxLen_le hl.max
 refine Spec.mk Tryz.func43 (by kernel_rfl) ?_
 refine ifnd (fun h => absurd rfl h) (fun _ => ?_)
 refine lIn (fun i : Nat => i ≤ l.length) (fun i => ⟨[(0, .val (.slice base l.length cap)), (1, .val (.slice base' l.length cap')), (5, .val (.int .i64 i))], [], 0, μ, Mem.nil⟩) (fun i => l.length - i)
  0 (by omega) (fun i => ⟨rfl, rfl⟩) ⟨⟨rfl, rfl, rfl, trivial⟩, trivial, rfl, rfl⟩ ?_
 intro i hi
 refine ifd (fun h => ?_) (fun h => ?_)
 ·obtain ⟨t, ht⟩ := aSo (l := l) (i := i) (by omega)
  obtain ⟨ad, p, hel, hr⟩ := Tm.elem hl ht
  obtain ⟨ad', p', hel', hr'⟩ := Tm.elem hl' ht
  refine eIn hel (eIn hel' (cGv (he t (mAt ht) hr hr') ?_))
  refine iIn (fun h => nomatch h) (fun _ => ?_)
  exact num64 (by omega) (by omega) ⟨i + 1, by omega, by omega, ⟨⟨rfl, rfl, rfl, trivial⟩, trivial, rfl, rfl⟩⟩
 ·exact rGv rfl rfl
theorem eqTerm_spec : ∀ (t : Tm) {v v' : Value}, RepV μ t.d v → RepV μ t.d v' → Gives Tryz.prog 23 [v, v'] μ (.bool true) :=
 Tm.ind fun k n s l ih v v' hv hv' => by
  have w_ := Tm.inv hv
  obtain ⟨base, cap, rfl, hsl⟩ := w_
  have w_ := Tm.inv hv'
  obtain ⟨base', cap', rfl, hsl'⟩ := w_
  refine Spec.mk Tryz.func23 (by kernel_rfl) ?_
  intro r1 r2
  repeat' (first
   | refine ifnd (fun h => absurd rfl h) (fun _ => ?_)
   | refine cGv (eqTermS_of (l := l) (fun t ht _ _ => ih t ht) hsl hsl') ?_
   | refine iIn (fun h => nomatch h) (fun _ => ?_))
  exact rGv rfl rfl
theorem eqTermS_spec {l : List Tm} {base base' : Option Addr} {cap cap' : Nat} (hl : Sl μ 4 base l.length (l.map Tm.d)) (hl' : Sl μ 4 base' l.length (l.map Tm.d)) :
  Gives Tryz.prog 43 [.slice base l.length cap, .slice base' l.length cap'] μ (.bool true) := eqTermS_of (fun t _ _ _ => eqTerm_spec t) hl hl'
end
end Go.Vx
namespace Go.Vx
open Go.Proofs Classical
structure Bd where
 var : Int
 to : Tm
def Bd.d (b : Bd) : D := .st [.i b.var, b.to.d]
theorem Bd.d_n (b : Bd) : b.d.n = 5 := by
 have := Tm.d_n b.to
 simp only [Bd.d, D.n, D.ns, this]
def Bd.cs (b : Bd) (p : Option Addr × Nat) : List Value := [.int .i64 b.var, .int .i64 b.to.kind, .int .i64 b.to.num, .string b.to.name, .slice p.1 b.to.args.length p.2]
section
variable {μ : Mem}
theorem Tm.invC {t : Tm} {cs : List Value} (h : Rep μ t.d cs) : ∃ p : Option Addr × Nat, cs = t.cs p := by
 cases t
 have w_ := Tm.invS h
 obtain ⟨b, c, h, _⟩ := w_
 exact ⟨(b, c), h⟩
theorem Bd.invS {b : Bd} {cs : List Value} (h : Rep μ b.d cs) : ∃ p : Option Addr × Nat, cs = b.cs p ∧ RepV μ b.to.d (.agg (b.to.cs p).toArray) := by
 obtain ⟨c1, c2, rfl, rfl, c3, c4, rfl, h3, rfl⟩ := h
 have w_ := Tm.invC h3
 obtain ⟨p, rfl⟩ := w_
 exact ⟨p, by simp [Bd.cs, Tm.cs], Tm.rep h3⟩
theorem Bd.inv {b : Bd} {v : Value} (h : RepV μ b.d v) : ∃ p : Option Addr × Nat, v = .agg #[.int .i64 b.var, .int .i64 b.to.kind, .int .i64 b.to.num, .string b.to.name, .slice p.1 b.to.args.length p.2] ∧ RepV μ b.to.d (.agg (b.to.cs p).toArray) := by
 obtain ⟨cs, rfl, h⟩ := h
 have w_ := Bd.invS (b := b) h
 obtain ⟨p, rfl, h2⟩ := w_
 exact ⟨p, rfl, h2⟩
theorem Bd.invV {b : Bd} {v : Value} (h : RepV μ b.d v) : ∃ p : Option Addr × Nat, v = .agg #[.int .i64 b.var, .int .i64 b.to.kind, .int .i64 b.to.num, .string b.to.name, .slice p.1 b.to.args.length p.2] := by
 have w_ := Bd.inv h
 obtain ⟨p, h, _⟩ := w_
 exact ⟨p, h⟩
theorem Bd.elem {l : List Bd} {base : Option Addr} {n : Nat} (h : Sl μ 5 base n (l.map Bd.d)) {i : Nat} {b : Bd} (hb : l[i]? = some b) : ∃ ad, ∃ p : Option Addr × Nat, ElemAt μ base n 5 i ad (b.cs p) ∧ RepV μ b.d (.agg (b.cs p).toArray) := by
 have w_ := h.get i b.d (by simp [hb])
 obtain ⟨ad, cs, h1, h2⟩ := w_
 have w_ := Bd.invS (b := b) h2
 obtain ⟨p, rfl, _⟩ := w_
 exact ⟨ad, p, h1, _, rfl, h2⟩
end
end Go.Vx
namespace Go.Vx
open Go.Proofs Classical
structure Marking (xs : List D) (k : Int) (rest : List Value) (r : Nat) (j : Nat) (pre tail : List Value) (hh : Mem) : Prop where
 le : j ≤ xs.length
 out : hh r = none
 parts : ∃ post hpre hpost, tail = post ++ rest ∧ Parts hh hpre hpost ∧ OwnS (D.mks (xs.take j) k).1 hpre pre ∧ OwnS (xs.drop j) hpost post
theorem Marking.start {xs : List D} {k : Int} {rest flat : List Value} {r : Nat} {h2 : Mem} (h : h2 r = none) (o : OwnS xs h2 flat) : Marking xs k rest r 0 [] (flat ++ rest) h2 :=
 ⟨by omega, h, flat, Mem.nil, h2, rfl, Parts.nil_left _, ⟨rfl, rfl⟩, by simpa using o⟩
theorem Marking.len {xs : List D} {k : Int} {rest : List Value} {r : Nat} {j es : Nat} {pre tail : List Value} {hh : Mem} (m : Marking xs k rest r j pre tail hh) (hn : ∀ x ∈ xs, x.n = es) : pre.length = j * es := by
 obtain ⟨post, hpre, hpost, rfl, hp, o1, o2⟩ := m.parts
 rw [o1.len, D.mks_n, D.ns_eq (es := es) fun x hx => hn x (List.mem_of_mem_take hx), List.length_take, Nat.min_eq_left m.le]
theorem Marking.next {xs : List D} {k : Int} {rest : List Value} {r : Nat} {j : Nat} {pre tail : List Value} {hh : Mem} (M : Marking xs k rest r j pre tail hh) {x : D} (hx : xs[j]? = some x) :
  ∃ c g m c2, tail = c ++ (c2 ++ rest) ∧ Own x g c ∧ Parts hh g m ∧ m r = none ∧
   (∀ g' c', Apart g' m → g' r = none → Own (x.mk (D.mks (xs.take j) k).2).1 g' c' → Marking xs k rest r (j + 1) (pre ++ c') (c2 ++ rest) (g'.join m)) := by
 obtain ⟨post, hpre, hpost, rfl, hp, o1, o2⟩ := M.parts
 have hlt : j < xs.length := (List.getElem?_eq_some_iff.1 hx).1
 have hdrop : xs.drop j = x :: xs.drop (j + 1) := by
  rw [List.drop_eq_getElem_cons hlt]
  congr 1
  exact (List.getElem?_eq_some_iff.1 hx).2
 rw [hdrop] at o2
 obtain ⟨c, c2, g, g2, rfl, q, u1, u2⟩ := o2
 have w_ := hp.assoc q.symm
 obtain ⟨m, p1, p2⟩ := w_
 have hm : m r = none := by
  cases h : m r with
  | none => rfl
  | some o => have := p2.left r o h; rw [M.out] at this; cases this
 refine ⟨c, g, m, c2, by simp, u1, p2.symm, hm, fun g' c' ha hg ho => ⟨hlt, by rw [Mem.join_get, hg]; exact hm, c2, g'.join hpre, g2, rfl, ?_, ?_, u2⟩⟩
 ·have a1 : Apart g' hpre := fun b hb => by
   cases h : hpre b with
   | none => rfl
   | some o => have := ha b hb; rw [p1.left b o h] at this; cases this
  have w_ := (Parts.join ha).assoc p1
  obtain ⟨m2, q1, q2⟩ := w_
  have e := q1.is_join
  subst e
  exact q2
 ·rw [D.mks_take hx]
  refine OwnS.append (Parts.symm ?_) o1 (OwnS.last ho)
  refine Parts.join fun b hb => ?_
  cases h : hpre b with
  | none => rfl
  | some o => have := ha b hb; rw [p1.left b o h] at this; cases this
theorem Marking.cnt {xs : List D} {k : Int} {j : Nat} {x : D} (hx : xs[j]? = some x) : (D.mks (xs.take j) k).2 + x.cnt ≤ k + D.cnts xs := by
 have h1 := D.cnts_take xs (j + 1)
 rw [D.mks_cnt]
 rw [List.take_add_one, hx, Option.toList_some, D.cnts_append] at h1
 simp only [D.cnts] at h1
 omega
theorem Marking.last {xs : List D} {k : Int} {rest : List Value} {r : Nat} {pre tail : List Value} {hh : Mem} (M : Marking xs k rest r xs.length pre tail hh) : tail = rest ∧ OwnS (D.mks xs k).1 hh pre := by
 obtain ⟨post, hpre, hpost, rfl, hp, o1, o2⟩ := M.parts
 rw [List.drop_length] at o2
 obtain ⟨rfl, rfl⟩ := o2
 have w_ := hp.eq (Parts.nil_right _)
 obtain rfl := w_
 rw [List.take_length] at o1
 exact ⟨by simp, o1⟩
theorem back_of {g' m H' : Mem} {r : Nat} {o : Obj} (hm : m r = none) (p : Parts H' g' (m.set r o)) : Apart g' m ∧ g' r = none ∧ H' = (g'.join m).set r o := by
 have w_ := Mem.set_apart hm p.apart.symm
 obtain ⟨a1, a2⟩ := w_
 exact ⟨a1.symm, a2, p.eq ((Parts.join a1.symm).set (by rw [Mem.join_get, a2]; exact hm))⟩
theorem Tm.own {t : Tm} {h : Mem} {cs : List Value} (k : Own t.d h cs) : ∃ v, cs = [.int .i64 t.kind, .int .i64 t.num, .string t.name, v] ∧ OwnV (.sl 4 (t.args.map Tm.d)) h v := by
 cases t with
 | mk kd n s l =>
  rw [Tm.d_mk] at k
  obtain ⟨c1, c2, h1, h2, rfl, p, ⟨rfl, rfl⟩, c3, c4, h3, h4, rfl, q, ⟨rfl, rfl⟩, c5, c6, h5, h6, rfl, t, ⟨rfl, rfl⟩, c7, c8, h7, h8, rfl, u, k7, rfl, rfl⟩ := k
  have w_ := p.eq (Parts.nil_left _)
  obtain rfl := w_
  have w_ := q.eq (Parts.nil_left _)
  obtain rfl := w_
  have w_ := t.eq (Parts.nil_left _)
  obtain rfl := w_
  have w_ := u.eq (Parts.nil_right _)
  obtain rfl := w_
  have hl := k7.len
  match c7, hl with
  | [v], _ => exact ⟨v, by simp [Tm.kind, Tm.num, Tm.name], k7⟩
theorem Tm.d_eq (t : Tm) : t.d = .st [.i t.kind, .i t.num, .s t.name, .sl 4 (t.args.map Tm.d)] := by
 cases t; exact Tm.d_mk _ _ _ _
theorem Tm.mk_eq (t : Tm) (k : Int) : t.d.mk k = (.st [.i k, .i (k + 1), .s (mtext (k + 1 + 1)), .sl 4 (D.mks (t.args.map Tm.d) (k + 1 + 1 + 1)).1], (D.mks (t.args.map Tm.d) (k + 1 + 1 + 1)).2) := by
 rw [Tm.d_eq]; simp [D.mk, D.mks]
theorem Tm.cnt_eq (t : Tm) : t.d.cnt = 3 + D.cnts (t.args.map Tm.d) := by
 rw [Tm.d_eq]; simp [D.cnt, D.cnts]; omega
section
variable {μ : Mem}
theorem markTermS_of {l : List Tm} (he : ∀ t ∈ l, ∀ {h : Mem} {v : Value} {k : Int}, OwnV (.sl 4 (t.args.map Tm.d)) h v → 0 ≤ k → k + D.cnts (t.args.map Tm.d) ≤ 9223372036854775807 →
   SpecH Tryz.prog 44 [v, .int .i64 k] μ h fun r μ' h' => r = .int .i64 (D.mks (t.args.map Tm.d) k).2 ∧ μ' = μ ∧ OwnV (.sl 4 (D.mks (t.args.map Tm.d) k).1) h' v)
  {h : Mem} {v : Value} {k : Int} (ho : OwnV (.sl 4 (l.map Tm.d)) h v) (hk : 0 ≤ k) (hk2 : k + D.cnts (l.map Tm.d) ≤ 9223372036854775807) :
  SpecH Tryz.prog 44 [v, .int .i64 k] μ h fun r μ' h' => r = .int .i64 (D.mks (l.map Tm.d) k).2 ∧ μ' = μ ∧ OwnV (.sl 4 (D.mks (l.map Tm.d) k).1) h' v := by
 obtain ⟨base, cap, e, hm, hn, ho⟩ := ho
 simp only [List.cons.injEq, and_true] at e
 subst e
 have hm' : (l.map Tm.d).length ≤ 9223372036854775807 := Nat.le_trans hm.max (by decide)
 refine SpecH.mk [] Tryz.func44 (by kernel_rfl) ?_
 rcases ho with ⟨hnil, rfl⟩ | ⟨r, flat, rest, ty, h2, rfl, hr, rfl, ho⟩
 ·rw [hnil]
  refine lIn (fun i : Nat => i = 0) (fun i => ⟨[(0, .val (.slice base 0 cap)), (1, .val (.int .i64 k)), (5, .val (.int .i64 i))], [], 0, μ, Mem.nil⟩) (fun i => 0 - i)
   0 rfl (fun i => ⟨rfl, rfl⟩) ⟨⟨rfl, rfl, rfl, trivial⟩, trivial, rfl, rfl⟩ ?_
  rintro i rfl
  refine ifd (fun h => by omega) (fun h => rPl ⟨rfl, rfl, base, cap, rfl, ⟨Nat.zero_le _, Nat.zero_le _⟩, by simp [D.mks], .inl ⟨rfl, rfl⟩⟩)
 ·generalize hxs : l.map Tm.d = xs at *
  refine lIn (fun p : Nat × List Value × List Value × Mem => Marking xs k rest r p.1 p.2.1 p.2.2.1 p.2.2.2)
   (fun (i, pre, tail, hh) => ⟨[(0, .val (.slice (some ⟨r, 0, none⟩) xs.length cap)), (1, .val (.int .i64 (D.mks (xs.take i) k).2)), (5, .val (.int .i64 i))], [], 0, μ, hh.set r (.cells (List.toArray (pre ++ tail)) ty (0, 0))⟩) (fun p => xs.length - p.1)
   (0, [], flat ++ rest, h2) (Marking.start hr ho) (fun (_, _, _, _) => ⟨rfl, rfl⟩) ⟨⟨rfl, rfl, rfl, trivial⟩, trivial, rfl, rfl⟩ ?_
  rintro ⟨i, pre, tail, hh⟩ M
  dsimp only at M
  have hi := M.le
  have hge := D.mks_cnt (xs.take i) k
  refine ifd (fun h => ?_) (fun h => ?_)
  ·obtain ⟨t, ht⟩ := aSo (l := l) (i := i) (by rw [← hxs] at h; simp at h; omega)
   have hx : xs[i]? = some t.d := by rw [← hxs]; simp [ht]
   have w_ := M.next hx
   obtain ⟨c, g, m, c2, rfl, hown, hp, hmr, back⟩ := w_
   have w_ := Tm.own hown
   obtain ⟨v, rfl, hv⟩ := w_
   have w_ := OwnV.slice hv
   obtain ⟨b2, cap2, rfl⟩ := w_
   have hlen := M.len hn
   have hcnt := Marking.cnt (k := k) hx
   rw [Tm.cnt_eq] at hcnt
   refine ptr_intro ⟨r, 0, none⟩ rfl (by omega) (by omega) ?_
   refine sto_at (j := 0) (by simp [Addr.add_lit', hlen]) (by simp) ?_
   refine num64 (by omega) (by omega) ?_
   refine ptr_intro ⟨r, 0, none⟩ rfl (by omega) (by omega) ?_
   refine sto_at (j := 1) (by simp [Addr.add_lit', hlen]) (by simp) ?_
   refine num64 (by omega) (by omega) ?_
   refine cGv (markText_spec _ (by omega)) ?_
   refine ptr_intro ⟨r, 0, none⟩ rfl (by omega) (by omega) ?_
   refine sto_at (j := 2) (by simp [Addr.add_lit', hlen]) (by simp) ?_
   refine num64 (by omega) (by omega) ?_
   refine ptr_intro ⟨r, 0, none⟩ rfl (by omega) (by omega) ?_
   refine own_at (j := 3) (by simp [Addr.add_lit', hlen]) rfl ?_
   refine cOw (SpecH.frame (hp.set M.out) (he t (mAt ht) hv (by omega) (by omega))) fun v μ' H' hle hap hR => ?_
   obtain ⟨h', ⟨rfl, rfl, ho'⟩, hp'⟩ := hR
   have w_ := back_of hmr hp'
   obtain ⟨a1, a2, rfl⟩ := w_
   have hmk := D.mks_take hx k
   have hmk2 := Tm.mk_eq t (D.mks (xs.take i) k).2
   refine num64 (by omega) (by omega) ⟨(i + 1, pre ++ [.int .i64 (D.mks (xs.take i) k).2, .int .i64 ((D.mks (xs.take i) k).2 + 1), .string (mtext ((D.mks (xs.take i) k).2 + 1 + 1)), .slice b2 (t.args.map Tm.d).length cap2], c2 ++ rest, h'.join m), back _ _ a1 a2 ?_, by dsimp only; omega, ⟨⟨rfl, ?_, rfl, trivial⟩, trivial, rfl, ?_⟩⟩
   ·rw [hmk2]
    exact OwnS.int (OwnS.int (OwnS.str (OwnS.last ho')))
   ·rw [hmk, hmk2]
    rfl
   ·simp
  ·have hi' : i = xs.length := by omega
   subst hi'
   obtain ⟨rfl, o1⟩ := M.last
   refine rPl ⟨by rw [List.take_length], rfl, some ⟨r, 0, none⟩, cap, by rw [D.mks_length], by rw [D.mks_length]; exact hm, D.mks_size k hn, .inr ⟨r, pre, tail, ty, hh, rfl, M.out, rfl, o1⟩⟩
theorem markTermS_spec {l : List Tm} {h : Mem} {v : Value} {k : Int} (ho : OwnV (.sl 4 (l.map Tm.d)) h v) (hk : 0 ≤ k) (hk2 : k + D.cnts (l.map Tm.d) ≤ 9223372036854775807) :
  SpecH Tryz.prog 44 [v, .int .i64 k] μ h fun r μ' h' => r = .int .i64 (D.mks (l.map Tm.d) k).2 ∧ μ' = μ ∧ OwnV (.sl 4 (D.mks (l.map Tm.d) k).1) h' v :=
 Tm.ind (p := fun t => ∀ {h : Mem} {v : Value} {k : Int}, OwnV (.sl 4 (t.args.map Tm.d)) h v → 0 ≤ k → k + D.cnts (t.args.map Tm.d) ≤ 9223372036854775807 →
   SpecH Tryz.prog 44 [v, .int .i64 k] μ h fun r μ' h' => r = .int .i64 (D.mks (t.args.map Tm.d) k).2 ∧ μ' = μ ∧ OwnV (.sl 4 (D.mks (t.args.map Tm.d) k).1) h' v)
  (fun _ _ _ _ ih _ _ _ => markTermS_of fun t ht _ _ _ => ih t ht) (.mk 0 0 ⟨#[]⟩ l) ho hk hk2
theorem heldTermS_of {l : List Tm} (he : ∀ t ∈ l, ∀ {v : Value} {k : Int}, RepV μ (.sl 4 (D.mks (t.args.map Tm.d) k).1) v → 0 ≤ k → k + D.cnts (t.args.map Tm.d) ≤ 9223372036854775807 →
   Gives Tryz.prog 57 [v, .int .i64 k] μ (.int .i64 (D.mks (t.args.map Tm.d) k).2))
  {v : Value} {k : Int} (ho : RepV μ (.sl 4 (D.mks (l.map Tm.d) k).1) v) (hk : 0 ≤ k) (hk2 : k + D.cnts (l.map Tm.d) ≤ 9223372036854775807) :
  Gives Tryz.prog 57 [v, .int .i64 k] μ (.int .i64 (D.mks (l.map Tm.d) k).2) := by
 have w_ := Rep.sl ho
 obtain ⟨base, cap, rfl, hsl⟩ := w_
 have hm' := Nat.le_trans hsl.max (show maxLen ≤ 9223372036854775807 by decide)
 rw [D.mks_length] at hm' hsl ⊢
 refine Spec.mk Tryz.func57 (by kernel_rfl) ?_
 generalize hxs : l.map Tm.d = xs at *
 refine lIn (fun i : Nat => i ≤ xs.length) (fun i => ⟨[(0, .val (.slice base xs.length cap)), (1, .val (.int .i64 (D.mks (xs.take i) k).2)), (5, .val (.int .i64 i))], [], 0, μ, Mem.nil⟩) (fun i => xs.length - i)
  0 (by simp) (fun i => ⟨rfl, rfl⟩) ⟨⟨rfl, rfl, rfl, trivial⟩, trivial, rfl, rfl⟩ ?_
 intro i hi
 have hge := D.mks_cnt (xs.take i) k
 refine ifd (fun h => ?_) (fun h => ?_)
 ·obtain ⟨t, ht⟩ := aSo (l := l) (i := i) (by rw [← hxs] at h; simp at h; omega)
  have hx : xs[i]? = some t.d := by rw [← hxs]; simp [ht]
  have hcnt := Marking.cnt (k := k) hx
  rw [Tm.cnt_eq] at hcnt
  have w_ := hsl.get i _ (D.mks_get hx k)
  obtain ⟨ad, cs, hel, hcs⟩ := w_
  have hmk := D.mks_take hx k
  have hmk2 := Tm.mk_eq t (D.mks (xs.take i) k).2
  rw [hmk2] at hcs
  obtain ⟨_, _, rfl, rfl, _, _, rfl, rfl, _, _, rfl, rfl, c7, _, rfl, h7, rfl⟩ := hcs
  have hl := Rep.len _ _ h7
  match c7, hl with
  | [v], _ =>
   have h7' := h7
   obtain ⟨b2, cap2, rfl, _⟩ := h7'.sl
   have hge2 := D.mks_cnt (t.args.map Tm.d) ((D.mks (xs.take i) k).2 + 1 + 1 + 1)
   refine eIn hel (ifnd (fun h => absurd rfl h) fun _ => ?_)
   refine num64 (by omega) (by omega) ?_
   refine eIn hel (ifnd (fun h => absurd rfl h) fun _ => ?_)
   refine num64 (by omega) (by omega) ?_
   refine eIn hel ?_
   refine cGv (markText_spec _ (by omega)) ?_
   refine ifnd (fun h => absurd rfl h) fun _ => ?_
   refine num64 (by omega) (by omega) ?_
   refine eIn hel ?_
   refine cGv (he t (mAt ht) h7 (by omega) (by omega)) ?_
   refine ifd (fun h => absurd h (by omega)) (fun _ => ?_)
   refine num64 (by omega) (by omega) ?_
   exact ⟨i + 1, by omega, by omega, ⟨⟨rfl, by rw [hmk, hmk2]; rfl, rfl, trivial⟩, trivial, rfl, rfl⟩⟩
 ·have hi' : i = xs.length := by omega
  subst hi'
  rw [List.take_length]
  exact rGv rfl rfl
theorem heldTermS_spec {l : List Tm} {v : Value} {k : Int} (ho : RepV μ (.sl 4 (D.mks (l.map Tm.d) k).1) v) (hk : 0 ≤ k) (hk2 : k + D.cnts (l.map Tm.d) ≤ 9223372036854775807) :
  Gives Tryz.prog 57 [v, .int .i64 k] μ (.int .i64 (D.mks (l.map Tm.d) k).2) :=
 Tm.ind (p := fun t => ∀ {v : Value} {k : Int}, RepV μ (.sl 4 (D.mks (t.args.map Tm.d) k).1) v → 0 ≤ k → k + D.cnts (t.args.map Tm.d) ≤ 9223372036854775807 →
   Gives Tryz.prog 57 [v, .int .i64 k] μ (.int .i64 (D.mks (t.args.map Tm.d) k).2))
  (fun _ _ _ _ ih _ _ => heldTermS_of fun t ht _ _ => ih t ht) (.mk 0 0 ⟨#[]⟩ l) ho hk hk2
theorem Tm.mt_eq (t : Tm) (k : Int) : t.d.mt k = (.st [.i t.kind, .i t.num, .s t.name, .sl 4 (D.mks (t.args.map Tm.d) k).1], (D.mks (t.args.map Tm.d) k).2) := by
 rw [Tm.d_eq]; simp [D.mt, D.mts]
theorem Bd.own {b : Bd} {h : Mem} {cs : List Value} (k : Own b.d h cs) : ∃ v, cs = [.int .i64 b.var, .int .i64 b.to.kind, .int .i64 b.to.num, .string b.to.name, v] ∧ OwnV (.sl 4 (b.to.args.map Tm.d)) h v := by
 obtain ⟨c1, c2, h1, h2, rfl, p, ⟨rfl, rfl⟩, c3, c4, h3, h4, rfl, q, k3, rfl, rfl⟩ := k
 have w_ := p.eq (Parts.nil_left _)
 obtain rfl := w_
 have w_ := q.eq (Parts.nil_right _)
 obtain rfl := w_
 have w_ := Tm.own k3
 obtain ⟨v, rfl, hv⟩ := w_
 exact ⟨v, by simp, hv⟩
theorem Bd.mk_eq (b : Bd) (k : Int) : b.d.mk k = (.st [.i k, .st [.i (k + 1), .i (k + 1 + 1), .s (mtext (k + 1 + 1 + 1)), .sl 4 (D.mks (b.to.args.map Tm.d) (k + 1 + 1 + 1 + 1)).1]], (D.mks (b.to.args.map Tm.d) (k + 1 + 1 + 1 + 1)).2) := by
 simp only [Bd.d, D.mk, D.mks, Tm.mk_eq]
theorem Bd.cnt_eq (b : Bd) : b.d.cnt = 4 + D.cnts (b.to.args.map Tm.d) := by
 simp only [Bd.d, D.cnt, D.cnts, Tm.cnt_eq]; omega
end
end Go.Vx
namespace Go.Vx
open Go.Proofs
theorem read_Term : Reads Tryz.prog 40 fun d => ∃ t : Tm, d = t.d ∧ t.d.wd := fun n => by
 induction n using Nat.strongRecOn with
 | ind n ih =>
  match n, ih with
  | 0, _ => exact ReadsTo.zero _
  | n + 1, ih =>
   have hs : ReadsTo Tryz.prog n 22 fun d => ∃ xs, d = .sl 4 xs ∧ ∀ x ∈ xs, ∃ t : Tm, x = t.d ∧ t.d.wd := by
    match n, ih with
    | 0, _ => exact ReadsTo.zero _
    | n + 1, ih => exact reads_slice ti22.kind (cellsOf_tt ti40) (ih n (by omega)) (fun d h => by obtain ⟨t, rfl, _⟩ := h; exact Tm.d_n t)
   exact (reads_struct ti40 rfl (FieldsTo.cons ti3 (reads_int und_int n) (FieldsTo.cons ti3 (reads_int und_int n) (FieldsTo.cons ti9 (reads_str und_string n) (FieldsTo.cons ti22 hs FieldsTo.nil))))).weaken fun d h => by
    obtain ⟨ds, rfl, h⟩ := h
    obtain ⟨_, _, rfl, ⟨k, rfl, hk⟩, q1⟩ := h.cons
    obtain ⟨_, _, rfl, ⟨n, rfl, hn⟩, q2⟩ := q1.cons
    obtain ⟨_, _, rfl, ⟨s, rfl, hs⟩, q3⟩ := q2.cons
    obtain ⟨_, _, rfl, ⟨xs, rfl, hx⟩, q4⟩ := q3.cons
    obtain rfl := q4.nil
    obtain ⟨l, rfl⟩ := lift_list (f := Tm.d) fun x h => by obtain ⟨t, h, _⟩ := hx x h; exact ⟨t, h⟩
    refine ⟨.mk k n s l, (Tm.d_mk _ _ _ _).symm, ?_⟩
    rw [Tm.d_mk]
    exact ⟨hk, hn, hs, D.wds_of fun x hm => by obtain ⟨t, rfl, h⟩ := hx x hm; exact h, trivial⟩
theorem read_TermS : Reads Tryz.prog 22 fun d => ∃ l : List Tm, d = .sl 4 (l.map Tm.d) ∧ D.wds (l.map Tm.d) := fun n =>
 (reads_sl ti22.kind (cellsOf_tt ti40) (fun d h => by obtain ⟨a, rfl, _⟩ := h; exact Tm.d_n a) read_Term n).weaken fun d h => by
  obtain ⟨xs, rfl, hx⟩ := h
  obtain ⟨l, rfl⟩ := lift_list (f := Tm.d) fun x h => by obtain ⟨t, h, _⟩ := hx x h; exact ⟨t, h⟩
  exact ⟨l, rfl, D.wds_of fun x hm => by obtain ⟨t, rfl, h⟩ := hx x hm; exact h⟩
end Go.Vx
namespace Go.Vx
open Go.Proofs Classical
def Str.nil : ByteArray := ⟨#[]⟩
inductive T where
 | nil
 | var (n : Int)
 | sym (s : ByteArray)
 | num (n : Int)
 | pair (a b : T)
def T.tm : T → Tm
 | .nil => .mk 0 0 ⟨#[]⟩ []
 | .var n => .mk 1 n ⟨#[]⟩ []
 | .sym s => .mk 2 0 s []
 | .num n => .mk 3 n ⟨#[]⟩ []
 | .pair a b => .mk 4 0 ⟨#[]⟩ [a.tm, b.tm]
def T.good : T → Prop
 | .nil => True
 | .var n => 0 ≤ n ∧ n ≤ 100000
 | .sym s => IsNm s
 | .num n => -1000000000 ≤ n ∧ n ≤ 1000000000
 | .pair a b => a.good ∧ b.good
def T.size : T → Nat
 | .pair a b => 1 + a.size + b.size
 | .nil => 1
 | .var _ => 1
 | .sym _ => 1
 | .num _ => 1
def T.vars : T → List Int
 | .var n => [n]
 | .pair a b => a.vars ++ b.vars
 | .nil => []
 | .sym _ => []
 | .num _ => []
def T.ok (x : T) : Prop := x.good ∧ x.size ≤ 5000
mutual
def Tm.cnt : Tm → Nat
 | .mk _ _ _ l => 1 + Tm.cnts l
def Tm.cnts : List Tm → Nat
 | [] => 0
 | t :: r => t.cnt + Tm.cnts r
end
def Tm.Sh (t : Tm) : Prop := ∃ x : T, x.good ∧ x.tm = t
def Tm.Ok (t : Tm) : Prop := t.Sh ∧ t.cnt ≤ 5000
theorem T.cnt_tm : ∀ x : T, x.tm.cnt = x.size
 | .nil => rfl
 | .var _ => rfl
 | .sym _ => rfl
 | .num _ => rfl
 | .pair a b => by simp [T.tm, Tm.cnt, Tm.cnts, T.size, T.cnt_tm a, T.cnt_tm b]; omega
theorem Tm.cnt_pos (t : Tm) : 1 ≤ t.cnt := by cases t; simp [Tm.cnt]
theorem Tm.Ok.lift {t : Tm} (h : t.Ok) : ∃ x : T, x.ok ∧ t = x.tm := by
 obtain ⟨⟨x, h1, rfl⟩, h2⟩ := h
 rw [T.cnt_tm] at h2
 exact ⟨x, ⟨h1, h2⟩, rfl⟩
theorem T.ok.tm {x : T} (h : x.ok) : x.tm.Ok := ⟨⟨x, h.1, rfl⟩, by rw [T.cnt_tm]; exact h.2⟩
theorem Tm.Sh_iff (k n : Int) (s : ByteArray) (l : List Tm) : (Tm.mk k n s l).Sh ↔
  (k = 0 ∧ n = 0 ∧ s = ⟨#[]⟩ ∧ l = []) ∨ (k = 1 ∧ 0 ≤ n ∧ n ≤ 100000 ∧ s = ⟨#[]⟩ ∧ l = []) ∨ (k = 2 ∧ n = 0 ∧ IsNm s ∧ l = []) ∨ (k = 3 ∧ -1000000000 ≤ n ∧ n ≤ 1000000000 ∧ s = ⟨#[]⟩ ∧ l = []) ∨
  (k = 4 ∧ n = 0 ∧ s = ⟨#[]⟩ ∧ ∃ a b, l = [a, b] ∧ a.Sh ∧ b.Sh) := by
 constructor
 ·rintro ⟨x, hx, e⟩
  cases x <;> simp only [T.tm, Tm.mk.injEq] at e <;> obtain ⟨rfl, rfl, rfl, rfl⟩ := e <;> simp only [T.good] at hx
  ·simp
  ·right; left; simp [hx]
  ·right; right; left; simp [hx]
  ·right; right; right; left; simp [hx]
  ·right; right; right; right
   exact ⟨rfl, rfl, rfl, _, _, rfl, ⟨_, hx.1, rfl⟩, ⟨_, hx.2, rfl⟩⟩
 ·rintro (⟨rfl, rfl, rfl, rfl⟩ | ⟨rfl, h1, h2, rfl, rfl⟩ | ⟨rfl, rfl, h1, rfl⟩ | ⟨rfl, h1, h2, rfl, rfl⟩ | ⟨rfl, rfl, rfl, a, b, rfl, ⟨x, h1, rfl⟩, ⟨y, h2, rfl⟩⟩)
  ·exact ⟨.nil, trivial, rfl⟩
  ·exact ⟨.var n, ⟨h1, h2⟩, rfl⟩
  ·exact ⟨.sym s, h1, rfl⟩
  ·exact ⟨.num n, ⟨h1, h2⟩, rfl⟩
  ·exact ⟨.pair x y, ⟨h1, h2⟩, rfl⟩
theorem Tm.Sh_iff' (k n : Int) (s : ByteArray) (l : List Tm) : (Tm.mk k n s l).Sh ↔
  (k = 0 ∧ n = 0 ∧ s = ⟨#[]⟩ ∧ l.length = 0) ∨ (k = 1 ∧ 0 ≤ n ∧ n ≤ 100000 ∧ s = ⟨#[]⟩ ∧ l.length = 0) ∨ (k = 2 ∧ n = 0 ∧ IsNm s ∧ l.length = 0) ∨ (k = 3 ∧ -1000000000 ≤ n ∧ n ≤ 1000000000 ∧ s = ⟨#[]⟩ ∧ l.length = 0) ∨
  (k = 4 ∧ n = 0 ∧ s = ⟨#[]⟩ ∧ l.length = 2 ∧ ∃ a b, l = [a, b] ∧ a.Sh ∧ b.Sh) := by
 have h0 : l.length = 0 ↔ l = [] := List.length_eq_zero_iff
 have h2 : (l.length = 2 ∧ ∃ a b, l = [a, b] ∧ a.Sh ∧ b.Sh) ↔ ∃ a b, l = [a, b] ∧ a.Sh ∧ b.Sh := ⟨fun h => h.2, fun h => ⟨by obtain ⟨a, b, rfl, _⟩ := h; rfl, h⟩⟩
 rw [Tm.Sh_iff, h0, h2]
theorem isF {p : Prop} {_ : Decidable p} (h : ¬ p) : Value.bool false = .bool (decide p) := by rw [decide_eq_false h]
theorem isT {p : Prop} {_ : Decidable p} (h : p) : Value.bool true = .bool (decide p) := by rw [decide_eq_true h]
theorem isI {p q : Prop} {_ : Decidable p} {_ : Decidable q} (h : p ↔ q) : Value.bool (decide p) = .bool (decide q) := by simp only [h]
theorem two_of {α : Type} : ∀ {l : List α}, ((l.length : Nat) : Int) = 2 → ∃ a b, l = [a, b]
 | [a, b], _ => ⟨a, b, rfl⟩
 | [], h => by simp at h
 | [_], h => by simp at h
 | _ :: _ :: _ :: _, h => by simp at h; omega
theorem T.tm_inj : ∀ {x y : T}, x.tm = y.tm → x = y
 | .nil, y, h => by cases y <;> simp_all [T.tm]
 | .var n, y, h => by cases y <;> simp_all [T.tm]
 | .sym s, y, h => by cases y <;> simp_all [T.tm]
 | .num n, y, h => by cases y <;> simp_all [T.tm]
 | .pair a b, y, h => by
  cases y <;> simp [T.tm] at h
  rw [T.tm_inj h.1, T.tm_inj h.2]
theorem lift_ok : ∀ {l : List Tm}, (∀ t ∈ l, t.Ok) → ∃ xs : List T, l = xs.map T.tm ∧ ∀ x ∈ xs, x.ok
 | [], _ => ⟨[], rfl, by simp⟩
 | t :: l, h => by
  have w_ := (h t (by simp)).lift
  obtain ⟨x, h1, rfl⟩ := w_
  have w_ := lift_ok (l := l) fun t ht => h t (by simp [ht])
  obtain ⟨xs, rfl, h2⟩ := w_
  exact ⟨x :: xs, rfl, by simp; exact ⟨h1, h2⟩⟩
end Go.Vx
namespace Go.Vx
open Go.Proofs Classical
section
variable {μ : Mem}
theorem Tm.cnts_append : ∀ (a c : List Tm), Tm.cnts (a ++ c) = Tm.cnts a + Tm.cnts c
 | [], c => by simp [Tm.cnts]
 | d :: r, c => by simp [Tm.cnts, Tm.cnts_append r c, Nat.add_assoc]
theorem Tm.cnts_take {xs : List Tm} {j : Nat} {x : Tm} (h : xs[j]? = some x) : Tm.cnts (xs.take (j + 1)) = Tm.cnts (xs.take j) + x.cnt := by
 rw [List.take_add_one, h, Option.toList_some, Tm.cnts_append]; simp [Tm.cnts]
theorem Tm.cnts_le (xs : List Tm) (j : Nat) : Tm.cnts (xs.take j) ≤ Tm.cnts xs := by
 have := Tm.cnts_append (xs.take j) (xs.drop j)
 rw [List.take_append_drop] at this; omega
def upTo (n most : Int) : Int := min n (max most 0 + 1)
theorem l02Count_spec : ∀ (t : Tm) {v : Value} {most : Int}, RepV μ t.d v → -1000000000000 ≤ most → most ≤ 1000000000000 → Gives Tryz.prog 175 [v, .int .i64 most] μ (.int .i64 (upTo t.cnt most)) :=
 Tm.ind fun k n s l ih v most hv h1 h2 => by
  have w_ := Tm.inv hv
  obtain ⟨base, cap, rfl, hsl⟩ := w_
  have hn := maxLen_le hsl.max
  refine Spec.mk Tryz.func175 (by kernel_rfl) ?_
  intro r
  refine lIn (fun i : Nat => i ≤ l.length) (fun i => ⟨[(1, .val (.int .i64 most)), (5, .val (.int .i64 (upTo (1 + Tm.cnts (l.take i) : Nat) most))), (9, .val (.slice base l.length cap)), (10, .val (.int .i64 l.length)), (11, .val (.int .i64 i))], [], 1, μ, Mem.nil⟩) (fun i => l.length - i)
   0 (by omega) (fun i => ⟨rfl, rfl⟩) ⟨⟨rfl, by show some (SV.val (.int .i64 _)) = some (SV.val (.int .i64 _)); congr 3; simp [Tm.cnts, upTo]; omega, rfl, rfl, rfl, trivial⟩, trivial, rfl, rfl⟩ ?_
  intro i hi
  refine ifd (fun h => ?_) (fun h => ?_)
  ·have w_ := aSo (l := l) (i := i) (by omega)
   obtain ⟨t, ht⟩ := w_
   have hc := Tm.cnts_take ht
   have hc' := Tm.cnts_le l (i + 1)
   have w_ := Tm.elem hsl ht
   obtain ⟨ad, p, hel, hr⟩ := w_
   refine eIn hel ?_
   intro r2
   refine ifd (fun h => rGv ?_ rfl) (fun h => ?_)
   ·simp only [Tm.cnt, upTo] at h ⊢
    congr 1; omega
   ·have hb : upTo (1 + Tm.cnts (l.take i) : Nat) most ≤ 1000000000001 ∧ 1 ≤ upTo (1 + Tm.cnts (l.take i) : Nat) most := by unfold upTo; omega
    refine num64 (by omega) (by omega) ?_
    refine cGv (ih t (mAt ht) hr (by omega) (by omega)) ?_
    refine nEq (x := upTo (1 + Tm.cnts (l.take (i + 1)) : Nat) most) ?_ ?_
    ·have hb2 : upTo (t.cnt : Int) (most - upTo (1 + Tm.cnts (l.take i) : Nat) most) ≤ 1000000000001 ∧ 1 ≤ upTo (t.cnt : Int) (most - upTo (1 + Tm.cnts (l.take i) : Nat) most) := by
      have := t.cnt_pos
      unfold upTo at hb h ⊢
      omega
     rw [wrap64 (by omega) (by omega), hc]
     unfold upTo at h ⊢; omega
    ·exact num64 (by omega) (by omega) ⟨i + 1, by omega, by omega, ⟨⟨rfl, rfl, rfl, rfl, rfl, trivial⟩, trivial, rfl, rfl⟩⟩
  ·obtain rfl : i = l.length := by omega
   rw [List.take_length]
   exact rGv rfl rfl
set_option maxRecDepth 20000 in
theorem l02Shape_spec : ∀ (t : Tm) {v : Value}, RepV μ t.d v → t.d.wd → Gives Tryz.prog 176 [v] μ (.bool (decide t.Sh)) :=
 Tm.ind fun k n s l ih v hv hw => by
  have w_ := Tm.inv hv
  obtain ⟨base, cap, rfl, hsl⟩ := w_
  have hn := maxLen_le hsl.max
  rw [Tm.d_mk] at hw
  have hs : s.size ≤ maxLen := hw.2.2.1
  have hws := D.wds_mem (xs := l.map Tm.d) hw.2.2.2.1
  have hiff := Tm.Sh_iff' k n s l
  refine Spec.mk Tryz.func176 (by kernel_rfl) ?_
  intro r
  repeat' (first
   | refine ifd (fun h => ?_) (fun h => ?_)
   | refine ifnd (fun h => ?_) (fun h => ?_)
   | refine iIn (fun h => ?_) (fun h => ?_))
  all_goals first
   | (exfalso; clear ih hsl hv hw hws hiff; first | omega | contradiction)
   | (refine rGv (isF fun hS => ?_) rfl; clear ih hsl hv hw hws; rcases hiff.1 hS with ⟨e1, e2, e3, e4⟩ | ⟨e1, e2, e3, e4, e5⟩ | ⟨e1, e2, e3, e4⟩ | ⟨e1, e2, e3, e4, e5⟩ | ⟨e1, e2, e3, e4, e5⟩ <;> first | omega | contradiction | (subst_vars; contradiction))
   | (refine rGv (isT (hiff.2 (.inl ⟨?_, ?_, ?_, ?_⟩))) rfl <;> first | omega | assumption)
   | (refine cGv (l01In_spec _ _ _ _) (rGv (isI (p := (0 : Int) ≤ n ∧ n ≤ 100000) (hiff.trans ⟨fun hh => ?_, fun hh => .inr (.inl ⟨by omega, hh.1, hh.2, by assumption, by omega⟩)⟩).symm) rfl); rcases hh with ⟨e1, e2, e3, e4⟩ | ⟨e1, e2, e3, e4, e5⟩ | ⟨e1, e2, e3, e4⟩ | ⟨e1, e2, e3, e4, e5⟩ | ⟨e1, e2, e3, e4, e5⟩ <;> first | omega | exact ⟨by omega, by omega⟩)
   | (refine cGv (l01In_spec _ _ _ _) (rGv (isI (p := (-1000000000 : Int) ≤ n ∧ n ≤ 1000000000) (hiff.trans ⟨fun hh => ?_, fun hh => .inr (.inr (.inr (.inl ⟨by omega, hh.1, hh.2, by assumption, by omega⟩)))⟩).symm) rfl); rcases hh with ⟨e1, e2, e3, e4⟩ | ⟨e1, e2, e3, e4, e5⟩ | ⟨e1, e2, e3, e4⟩ | ⟨e1, e2, e3, e4, e5⟩ | ⟨e1, e2, e3, e4, e5⟩ <;> first | omega | exact ⟨by omega, by omega⟩)
   | (refine cGv (spec_IsName_spec s hs _) (rGv (isI (p := IsNm s) (hiff.trans ⟨fun hh => ?_, fun hh => .inr (.inr (.inl ⟨by omega, by omega, hh, by omega⟩))⟩).symm) rfl); rcases hh with ⟨e1, e2, e3, e4⟩ | ⟨e1, e2, e3, e4, e5⟩ | ⟨e1, e2, e3, e4⟩ | ⟨e1, e2, e3, e4, e5⟩ | ⟨e1, e2, e3, e4, e5⟩ <;> first | omega | assumption)
   | skip
  have h2 := h
  have w_ := two_of h2
  obtain ⟨a, b, rfl⟩ := w_
  have w_ := Tm.elem (i := 0) hsl rfl
  obtain ⟨ad, p, hel, hra⟩ := w_
  have w_ := Tm.elem (i := 1) hsl rfl
  obtain ⟨ad', p', hel', hrb⟩ := w_
  refine eIn hel (cGv (ih a (by simp) hra (hws _ (by simp))) ?_)
  refine iIn (fun h => ?_) (fun h => ?_)
  ·refine eIn hel' (cGv (ih b (by simp) hrb (hws _ (by simp))) (rGv (isI (hiff.trans ⟨fun hh => ?_, fun hh => ?_⟩).symm) rfl))
   ·rcases hh with ⟨e1, e2, e3, e4⟩ | ⟨e1, e2, e3, e4, e5⟩ | ⟨e1, e2, e3, e4⟩ | ⟨e1, e2, e3, e4, e5⟩ | ⟨e1, e2, e3, e4, e5⟩ <;> first | omega | (obtain ⟨a', b', e, e6, e7⟩ := e5; cases e; assumption)
   ·exact .inr (.inr (.inr (.inr ⟨by omega, by omega, by assumption, rfl, a, b, rfl, of_decide_eq_true h, hh⟩)))
  ·refine rGv (isF fun hh => ?_) rfl
   replace hh := hiff.1 hh
   rcases hh with ⟨e1, e2, e3, e4⟩ | ⟨e1, e2, e3, e4, e5⟩ | ⟨e1, e2, e3, e4⟩ | ⟨e1, e2, e3, e4, e5⟩ | ⟨e1, e2, e3, e4, e5⟩ <;> first | omega | (obtain ⟨a', b', e, e6, e7⟩ := e5; cases e; exact absurd e6 (of_decide_eq_false h))
noncomputable def Tm.nodes (t : Tm) (room : Int) : Int := if t.Sh ∧ (t.cnt : Int) ≤ room then t.cnt else -1
theorem Tm.nodes_neg {t : Tm} {room : Int} (h : ¬ (t.Sh ∧ (t.cnt : Int) ≤ room)) : Value.int .i64 (-1) = .int .i64 (t.nodes room) := by rw [Tm.nodes, if_neg h]
theorem Tm.nodes_pos {t : Tm} {room : Int} (h : t.Sh) (h2 : (t.cnt : Int) ≤ room) : t.nodes room = t.cnt := by rw [Tm.nodes, if_pos ⟨h, h2⟩]
theorem Tm.nodes_lt {t : Tm} {room : Int} (h : t.nodes room < 0) : ¬ (t.Sh ∧ (t.cnt : Int) ≤ room) := fun k => by rw [Tm.nodes, if_pos k] at h; omega
theorem Tm.nodes_ge {t : Tm} {room : Int} (h : ¬ t.nodes room < 0) : t.Sh ∧ (t.cnt : Int) ≤ room ∧ t.nodes room = t.cnt := by
 by_cases k : t.Sh ∧ (t.cnt : Int) ≤ room
 ·exact ⟨k.1, k.2, by rw [Tm.nodes, if_pos k]⟩
 ·rw [Tm.nodes, if_neg k] at h; omega
set_option maxRecDepth 20000 in
theorem nodesOf_spec : ∀ (t : Tm) {v : Value} {room : Int}, RepV μ t.d v → -1000000000000 ≤ room → room ≤ 1000000000000 → Gives Tryz.prog 134 [v, .int .i64 room] μ (.int .i64 (t.nodes room)) :=
 Tm.ind fun k n s l ih v room hv hr1 hr2 => by
  have w_ := Tm.inv hv
  obtain ⟨base, cap, rfl, hsl⟩ := w_
  have hn := maxLen_le hsl.max
  have hiff := Tm.Sh_iff' k n s l
  have hone : l.length = 0 → (Tm.mk k n s l).cnt = 1 := fun h => by
   have w_ := List.eq_nil_of_length_eq_zero h
   obtain rfl := w_
   rfl
  have hpos := Tm.cnt_pos (.mk k n s l)
  refine Spec.mk Tryz.func134 (by kernel_rfl) ?_
  intro r
  refine ifd (fun h0 => rGv (Tm.nodes_neg fun hh => by omega) rfl) (fun h0 => ?_)
  have hgood : (Tm.mk k n s l).Sh → l.length = 0 → Value.int .i64 1 = .int .i64 ((Tm.mk k n s l).nodes room) := fun h1 h2 => by
   have := hone h2
   rw [Tm.nodes_pos h1 (by omega), this]; rfl
  refine ifnd (fun hk => ?_) (fun hk => ?_)
  ·repeat' (first
    | refine ifd (fun h => ?_) (fun h => ?_)
    | refine ifnd (fun h => ?_) (fun h => ?_)
    | refine iIn (fun h => ?_) (fun h => ?_)
    | refine cGv (impl_IsName_spec s _) ?_)
   all_goals first
    | (exfalso; clear ih hsl hv hiff; first | omega | contradiction)
    | (refine rGv (Tm.nodes_neg fun hS => ?_) rfl; have hh := hiff.1 hS.1; clear ih hsl hv; rcases hh with ⟨e1, e2, e3, e4⟩ | ⟨e1, e2, e3, e4, e5⟩ | ⟨e1, e2, e3, e4⟩ | ⟨e1, e2, e3, e4, e5⟩ | ⟨e1, e2, e3, e4, e5⟩ <;> first | omega | contradiction | (subst_vars; contradiction))
    | (refine rGv (hgood (hiff.2 (.inl ⟨?_, ?_, ?_, ?_⟩)) (by omega)) rfl <;> first | omega | assumption; done)
    | (refine rGv (hgood (hiff.2 (.inr (.inl ⟨?_, ?_, ?_, ?_, ?_⟩))) (by omega)) rfl <;> first | omega | assumption; done)
    | (refine rGv (hgood (hiff.2 (.inr (.inr (.inl ⟨?_, ?_, ?_, ?_⟩)))) (by omega)) rfl <;> first | omega | assumption; done)
    | (refine rGv (hgood (hiff.2 (.inr (.inr (.inr (.inl ⟨?_, ?_, ?_, ?_, ?_⟩))))) (by omega)) rfl <;> first | omega | assumption; done)
    | trace_state
  ·refine ifnd (fun h1 => ?_) (fun h1 => ?_)
   ·refine rGv (Tm.nodes_neg fun hS => ?_) rfl; have hh := hiff.1 hS.1; clear ih hsl hv
    rcases hh with ⟨e1, e2, e3, e4⟩ | ⟨e1, e2, e3, e4, e5⟩ | ⟨e1, e2, e3, e4⟩ | ⟨e1, e2, e3, e4, e5⟩ | ⟨e1, e2, e3, e4, e5⟩ <;> omega
   refine ifnd (fun h2 => ?_) (fun h2 => ?_)
   ·refine rGv (Tm.nodes_neg fun hS => ?_) rfl; have hh := hiff.1 hS.1; clear ih hsl hv
    rcases hh with ⟨e1, e2, e3, e4⟩ | ⟨e1, e2, e3, e4, e5⟩ | ⟨e1, e2, e3, e4⟩ | ⟨e1, e2, e3, e4, e5⟩ | ⟨e1, e2, e3, e4, e5⟩ <;> first | omega | contradiction
   refine ifnd (fun h3 => ?_) (fun h3 => ?_)
   ·refine rGv (Tm.nodes_neg fun hS => ?_) rfl; have hh := hiff.1 hS.1; clear ih hsl hv
    rcases hh with ⟨e1, e2, e3, e4⟩ | ⟨e1, e2, e3, e4, e5⟩ | ⟨e1, e2, e3, e4⟩ | ⟨e1, e2, e3, e4, e5⟩ | ⟨e1, e2, e3, e4, e5⟩ <;> omega
   have w_ := two_of h3
   obtain ⟨a, b, rfl⟩ := w_
   have hcnt : (Tm.mk k n s [a, b]).cnt = 1 + a.cnt + b.cnt := by simp [Tm.cnt, Tm.cnts]; omega
   have hsh : (Tm.mk k n s [a, b]).Sh → a.Sh ∧ b.Sh := fun hS => by
    have hh := hiff.1 hS
    rcases hh with ⟨e1, e2, e3, e4⟩ | ⟨e1, e2, e3, e4, e5⟩ | ⟨e1, e2, e3, e4⟩ | ⟨e1, e2, e3, e4, e5⟩ | ⟨e1, e2, e3, e4, e5⟩ <;> first | omega | (obtain ⟨a', b', e, e6, e7⟩ := e5; cases e; exact ⟨e6, e7⟩)
   have w_ := Tm.elem (i := 0) hsl rfl
   obtain ⟨ad, p, hel, hra⟩ := w_
   have w_ := Tm.elem (i := 1) hsl rfl
   obtain ⟨ad', p', hel', hrb⟩ := w_
   refine eIn hel (num64 (by omega) (by omega) (cGv (ih a (by simp) hra (by omega) (by omega)) ?_))
   refine ifd (fun h4 => ?_) (fun h4 => ?_)
   ·have := Tm.nodes_lt h4
    refine rGv (Tm.nodes_neg fun hS => this ⟨(hsh hS.1).1, ?_⟩) rfl
    have := hS.2; rw [hcnt] at this; omega
   have w_ := Tm.nodes_ge h4
   obtain ⟨g1, g2, g3⟩ := w_
   have := a.cnt_pos
   refine eIn hel' (num64 (by omega) (by omega) (num64 (by omega) (by omega) (cGv (ih b (by simp) hrb (by omega) (by omega)) ?_)))
   refine ifd (fun h5 => ?_) (fun h5 => ?_)
   ·have := Tm.nodes_lt h5
    refine rGv (Tm.nodes_neg fun hS => this ⟨(hsh hS.1).2, ?_⟩) rfl
    have := hS.2; rw [hcnt] at this; omega
   have w_ := Tm.nodes_ge h5
   obtain ⟨g4, g5, g6⟩ := w_
   refine num64 (by omega) (by omega) (num64 (by omega) (by omega) (rGv ?_ rfl))
   rw [Tm.nodes_pos (hiff.2 (.inr (.inr (.inr (.inr ⟨by omega, by omega, by assumption, rfl, a, b, rfl, g1, g4⟩))))) (by rw [hcnt]; omega), hcnt]
   congr 1; omega
end
end Go.Vx
namespace Go.Vx
open Go.Proofs Classical
section
variable {μ : Mem}
theorem spec_TermOk_spec (t : Tm) {v : Value} (hv : RepV μ t.d v) (hw : t.d.wd) : Gives Tryz.prog 123 [v] μ (.bool (decide t.Ok)) := by
 have w_ := Tm.invV hv
 obtain ⟨p, rfl⟩ := w_
 refine Spec.mk Tryz.func123 (by kernel_rfl) ?_
 intro r
 refine cGv (l02Count_spec t hv (by decide) (by decide)) ?_
 refine ifd (fun h => ?_) (fun h => rGv (isF fun hh => ?_) rfl)
 ·refine cGv (l02Shape_spec t hv hw) (rGv (isI ⟨fun hh => ⟨hh, ?_⟩, fun hh => hh.1⟩) rfl)
  unfold upTo at h; omega
 ·have := hh.2; unfold upTo at h; omega
theorem impl_TermOk_spec (t : Tm) {v : Value} (hv : RepV μ t.d v) : Gives Tryz.prog 131 [v] μ (.bool (decide t.Ok)) := by
 have w_ := Tm.invV hv
 obtain ⟨p, rfl⟩ := w_
 refine Spec.mk Tryz.func131 (by kernel_rfl) ?_
 intro r
 refine cGv (nodesOf_spec t hv (by decide) (by decide)) (rGv (isI ⟨fun hh => ?_, fun hh => ?_⟩) rfl)
 ·have w_ := Tm.nodes_ge (by omega : ¬ t.nodes 5000 < 0)
  obtain ⟨h1, h2, _⟩ := w_
  exact ⟨h1, by omega⟩
 ·rw [Tm.nodes_pos hh.1 (by have := hh.2; omega)]
  have := t.cnt_pos; omega
theorem l02AllOk_spec {l : List Tm} {base : Option Addr} {cap : Nat} (hsl : Sl μ 4 base l.length (l.map Tm.d)) (hw : D.wds (l.map Tm.d)) : Gives Tryz.prog 100 [.slice base l.length cap] μ (.bool (decide (∀ t ∈ l, t.Ok))) := by
  have hn := maxLen_le hsl.max
  refine Spec.mk Tryz.func100 (by kernel_rfl) ?_
  refine lIn (fun i : Nat => i ≤ l.length ∧ ∀ t ∈ l.take i, t.Ok) (fun i => ⟨[(5, .val (.slice base l.length cap)), (6, .val (.int .i64 l.length)), (7, .val (.int .i64 i))], [], 0, μ, Mem.nil⟩) (fun i => l.length - i)
   0 ⟨by omega, by simp⟩ (fun i => ⟨rfl, rfl⟩) ⟨⟨rfl, rfl, rfl, trivial⟩, trivial, rfl, rfl⟩ ?_
  rintro i ⟨hi, hall⟩
  refine ifd (fun h => ?_) (fun h => ?_)
  ·have w_ := aSo (l := l) (i := i) (by omega)
   obtain ⟨t, ht⟩ := w_
   have w_ := Tm.elem hsl ht
   obtain ⟨ad, p, hel, hr⟩ := w_
   refine eIn hel ?_
   intro r
   refine cGv (spec_TermOk_spec t hr (D.wds_mem hw _ (mAt (at_map (f := Tm.d) ht)))) ?_
   refine ifnd (fun h => rGv (isF fun hh => h (hh t (mAt ht))) rfl) (fun h => ?_)
   refine num64 (by omega) (by omega) ⟨i + 1, ⟨by omega, fun x hx => ?_⟩, by omega, ⟨⟨rfl, rfl, rfl, trivial⟩, trivial, rfl, rfl⟩⟩
   rw [List.take_add_one, ht, Option.toList_some, List.mem_append, List.mem_singleton] at hx
   rcases hx with hx | rfl
   ·exact hall x hx
   ·exact h
  ·obtain rfl : i = l.length := by omega
   rw [List.take_length] at hall
   exact rGv (isT hall) rfl
theorem termsOk_spec {l : List Tm} {base : Option Addr} {cap : Nat} (hsl : Sl μ 4 base l.length (l.map Tm.d)) : Gives Tryz.prog 104 [.slice base l.length cap] μ (.bool (decide (∀ t ∈ l, t.Ok))) := by
  have hn := maxLen_le hsl.max
  refine Spec.mk Tryz.func104 (by kernel_rfl) ?_
  refine lIn (fun i : Nat => i ≤ l.length ∧ ∀ t ∈ l.take i, t.Ok) (fun i => ⟨[(5, .val (.slice base l.length cap)), (6, .val (.int .i64 l.length)), (7, .val (.int .i64 i))], [], 0, μ, Mem.nil⟩) (fun i => l.length - i)
   0 ⟨by omega, by simp⟩ (fun i => ⟨rfl, rfl⟩) ⟨⟨rfl, rfl, rfl, trivial⟩, trivial, rfl, rfl⟩ ?_
  rintro i ⟨hi, hall⟩
  refine ifd (fun h => ?_) (fun h => ?_)
  ·have w_ := aSo (l := l) (i := i) (by omega)
   obtain ⟨t, ht⟩ := w_
   have w_ := Tm.elem hsl ht
   obtain ⟨ad, p, hel, hr⟩ := w_
   refine eIn hel ?_
   intro r
   refine cGv (impl_TermOk_spec t hr) ?_
   refine ifnd (fun h => rGv (isF fun hh => h (hh t (mAt ht))) rfl) (fun h => ?_)
   refine num64 (by omega) (by omega) ⟨i + 1, ⟨by omega, fun x hx => ?_⟩, by omega, ⟨⟨rfl, rfl, rfl, trivial⟩, trivial, rfl, rfl⟩⟩
   rw [List.take_add_one, ht, Option.toList_some, List.mem_append, List.mem_singleton] at hx
   rcases hx with hx | rfl
   ·exact hall x hx
   ·exact h
  ·obtain rfl : i = l.length := by omega
   rw [List.take_length] at hall
   exact rGv (isT hall) rfl
end
end Go.Vx
namespace Go.Vx
open Go.Proofs Classical
theorem box_at {μ : Mem} {r : Nat} {x : Value} {ty : TypeId} (h : μ r = some (.cells #[x] ty (0, 0))) : ∀ j v, [x][j]? = some v → μ.cell ((⟨r, 0, none⟩ : Addr).add j) = some v := fun j v hj => by
 match j, hj with
 | 0, hj => cases hj; simp [Mem.cell, Addr.add_lit', h]
section
variable {μ : Mem}
theorem T.parts {a b : T} {base : Option Addr} {n : Nat} (h : Sl μ 4 base n ([a.tm, b.tm].map Tm.d)) : ∃ ad ad', ∃ p p' : Option Addr × Nat, ElemAt μ base n 4 ((0 : Nat) : Int) ad (a.tm.cs p) ∧ ElemAt μ base n 4 ((1 : Nat) : Int) ad' (b.tm.cs p') ∧ RepV μ a.tm.d (.agg (a.tm.cs p).toArray) ∧ RepV μ b.tm.d (.agg (b.tm.cs p').toArray) := by
 have w_ := Tm.elem (i := 0) h rfl
 obtain ⟨ad, p, h1, h2⟩ := w_
 have w_ := Tm.elem (i := 1) h rfl
 obtain ⟨ad', p', h3, h4⟩ := w_
 exact ⟨ad, ad', p, p', h1, h3, h2, h4⟩
end
end Go.Vx
namespace Go.Vx
open Go.Proofs Classical
def ints (l : List Int) : List Value := l.map fun n => .int .i64 n
theorem ints_flat : ∀ l : List Int, (ints l).flatMap vcells = ints l
 | [] => rfl
 | n :: l => by
  have := ints_flat l
  simp only [ints] at this ⊢
  simp [this, vcells]
section
variable {μ : Mem}
theorem Ints.elem {l : List Int} {base : Option Addr} {n : Nat} (h : Sl μ 1 base n (l.map D.i)) {i : Nat} {x : Int} (hx : l[i]? = some x) : ∃ ad, ElemAt μ base n 1 i ad [.int .i64 x] := by
 have w_ := h.get i (.i x) (by simp [hx])
 obtain ⟨ad, cs, h1, h2⟩ := w_
 have h2 : cs = [.int .i64 x] := h2
 subst h2
 exact ⟨ad, h1⟩
theorem Ints.rows : ∀ l : List Int, Rows μ 1 (l.map D.i) (ints l)
 | [] => .nil
 | n :: l => .cons (show RepV μ (.i n) (.int .i64 n) from rfl) rfl (Ints.rows l)
theorem Ints.sl {b : Option Nat} {cap : Nat} {l : List Int} (h : RowAt μ b cap 1 (ints l)) (hm : l.length ≤ maxLen) : RepV μ (.sl 1 (l.map D.i)) (.slice (b.map fun r => ⟨r, 0, none⟩) (ints l).length cap) :=
 Rows.sl h (Ints.rows l) (by simpa [ints] using hm)
theorem Ints.src {l : List Int} {base : Option Addr} (h : Sl μ 1 base l.length (l.map D.i)) {a b cap : Nat} (hab : a ≤ b) (hb : b ≤ l.length) (hc : l.length ≤ cap) : SrcAt μ (if cap = a then base else base.map (·.add (a * 1))) (b - a) 1 (ints ((l.drop a).take (b - a))) := by
 refine ⟨by simp [ints]; omega, fun y hy => ?_, ?_⟩
 ·have w_ := List.mem_map.1 hy
  obtain ⟨n, _, rfl⟩ := w_
  exact ⟨rfl, fun u hu => by simp [vcells] at hu; subst hu; rfl⟩
 ·rcases Nat.eq_or_lt_of_le hab with h0 | h0
  ·exact .inl (by omega)
  ·right
   have w_ := aSo (l := l) (i := a) (by omega)
   obtain ⟨x, hx⟩ := w_
   have w_ := Ints.elem h hx
   obtain ⟨_, hel⟩ := w_
   obtain ⟨a0, e, _⟩ := hel.addr
   refine ⟨a0.add (a * 1), by rw [if_neg (by omega), e]; rfl, fun j v hj => ?_⟩
   rw [ints_flat] at hj
   simp only [ints, List.getElem?_map] at hj
   have w_ := Option.map_eq_some_iff.1 hj
   obtain ⟨y, hy, rfl⟩ := w_
   rw [List.getElem?_take] at hy
   split at hy
   ·rw [List.getElem?_drop] at hy
    have w_ := Ints.elem h hy
    obtain ⟨ad, hel2⟩ := w_
    obtain ⟨a1, e1, e2⟩ := hel2.addr
    rw [e] at e1
    cases e1
    have := hel2.cell 0 _ rfl
    rw [e2, add_add] at this
    rw [add_add]
    rw [← this]
    congr 2
    simp
    omega
   ·cases hy
def insInt (l : List Int) (n : Int) (k : Nat) : List Int := l.take k ++ ([n] ++ l.drop k)
theorem insInt_mem (l : List Int) (n : Int) (k : Nat) (x : Int) : x ∈ insInt l n k ↔ x = n ∨ x ∈ l := by
 have := List.take_append_drop k l
 have h2 : x ∈ l ↔ x ∈ l.take k ∨ x ∈ l.drop k := by rw [← List.mem_append, this]
 simp only [insInt, List.mem_append, List.mem_singleton, h2]
 constructor
 ·rintro (h | h | h) <;> simp [h]
 ·rintro (h | h | h) <;> simp [h]
theorem Spec.forget {P : Program} {f : FuncId} {args : List Value} {R : Value → Prop} (h : Spec P f args μ fun v _ => R v) : Spec P f args μ fun v μ' => R v ∧ μ' = μ := by
 refine ⟨h.1, fun w hm hh hap => (h.2 w hm hh hap).mono ?_⟩
 rintro e w' ⟨v, μ', h', rfl, hr, hS⟩
 exact ⟨v, μ, Mem.nil, rfl, ⟨hr, rfl⟩, ⟨Mem.Le.refl μ, hS.mem.le hS.le, holds_nil w', apart_nil _, fun b h1 h2 => absurd h1 h2, fun b hb => absurd rfl hb, hS.size, hS.keep, hS.os, hS.tape, hS.output⟩⟩
def T.args : T → List T
 | .pair a b => [a, b]
 | .nil => []
 | .var _ => []
 | .sym _ => []
 | .num _ => []
theorem T.ind {p : T → Prop} (h : ∀ x : T, (∀ y ∈ x.args, p y) → p x) : ∀ x, p x
 | .pair a b => by
  have ha := T.ind h a
  have hb := T.ind h b
  refine h _ fun y hy => ?_
  simp only [T.args, List.mem_cons, List.not_mem_nil, or_false] at hy
  rcases hy with rfl | rfl
  ·exact ha
  ·exact hb
 | .nil => h _ fun y hy => by simp [T.args] at hy
 | .var _ => h _ fun y hy => by simp [T.args] at hy
 | .sym _ => h _ fun y hy => by simp [T.args] at hy
 | .num _ => h _ fun y hy => by simp [T.args] at hy
theorem T.tm_args (x : T) : x.tm.args = x.args.map T.tm := by cases x <;> rfl
theorem T.vars_args {x : T} (h : x.tm.kind ≠ 1) : x.vars = x.args.flatMap T.vars := by
 cases x <;> simp_all [T.vars, T.args, T.tm, Tm.kind]
end
end Go.Vx
namespace Go.Vx
open Go.Proofs Classical
noncomputable def Tm.toT (t : Tm) : T := if h : ∃ x : T, x.tm = t then h.choose else .nil
theorem T.toT_tm (x : T) : x.tm.toT = x := by
 have h : ∃ y : T, y.tm = x.tm := ⟨x, rfl⟩
 rw [Tm.toT, dif_pos h]
 exact T.tm_inj h.choose_spec
theorem Tm.Ok.toT {t : Tm} (h : t.Ok) : t.toT.ok ∧ t.toT.tm = t := by
 obtain ⟨x, h1, rfl⟩ := h.lift
 rw [T.toT_tm]; exact ⟨h1, rfl⟩
structure B where
 var : Int
 to : T
def B.bd (b : B) : Bd := ⟨b.var, b.to.tm⟩
noncomputable def Bd.b (b : Bd) : B := ⟨b.var, b.to.toT⟩
def okAt (l : List Bd) (i : Nat) (b : Bd) : Prop := (0 ≤ b.var ∧ b.var ≤ 100000) ∧ b.to.Ok ∧ ∀ j c, j + 1 = i → l[j]? = some c → c.var < b.var
def valsOk (l : List Bd) : Prop := l.length ≤ 400 ∧ ∀ i b, l[i]? = some b → okAt l i b
theorem valsOk.lift {l : List Bd} (h : valsOk l) : (l.map Bd.b).map B.bd = l ∧ (∀ b ∈ l.map Bd.b, b.to.ok) := by
 have h2 : ∀ b ∈ l, b.to.Ok := fun b hb => by
  have w_ := List.mem_iff_getElem?.1 hb
  obtain ⟨i, hi⟩ := w_
  exact (h.2 i b hi).2.1
 clear h
 induction l with
 | nil => simp
 | cons b l ih =>
  have h1 := (h2 b (by simp)).toT
  have w_ := ih fun b hb => h2 b (by simp [hb])
  obtain ⟨i1, i2⟩ := w_
  refine ⟨?_, ?_⟩
  ·simp only [List.map_cons, i1, Bd.b, B.bd, h1.2]
  ·intro c hc
   simp only [List.map_cons, List.mem_cons] at hc
   rcases hc with rfl | hc
   ·exact h1.1
   ·exact i2 c hc
def sub : List B → Int → Option T
 | [], _ => none
 | b :: r, n => if b.var = n then some b.to else sub r n
def T.subst (f : Int → Option T) : T → T
 | .var n => (f n).getD (.var n)
 | .pair a b => .pair (a.subst f) (b.subst f)
 | .nil => .nil
 | .sym s => .sym s
 | .num n => .num n
theorem drop_at {α : Type} {l : List α} {i : Nat} {a : α} (h : l[i]? = some a) : l.drop i = a :: l.drop (i + 1) := by
 have w_ := List.getElem?_eq_some_iff.1 h
 obtain ⟨h1, h2⟩ := w_
 rw [List.drop_eq_getElem_cons h1, h2]
def optV (P : T → Value → Prop) (o : Option T) (v : Value) : Prop := match o with
 | some y => ∃ tv, v = .tuple #[tv, .bool true] ∧ P y tv
 | none => v = .tuple #[.agg #[.int .i64 0, .int .i64 0, .string ⟨#[]⟩, .slice none 0 0], .bool false]
section
variable {μ : Mem}
theorem T.fits (x : T) : (upTo (x.size : Int) 5000 ≤ 5000) ↔ x.size ≤ 5000 := by unfold upTo; omega
theorem Bd.toV {b : Bd} {p : Option Addr × Nat} (h : RepV μ b.d (.agg (b.cs p).toArray)) : RepV μ b.to.d (.agg (b.to.cs p).toArray) := by
 have w_ := Bd.inv h
 obtain ⟨q, e, hto⟩ := w_
 have hq : q = p := by
  have h2 := congrArg (fun v => match v with | Value.agg a => a[4]? | _ => none) e
  simp [Bd.cs] at h2
  exact Prod.ext h2.1.symm h2.2.symm
 rw [← hq]; exact hto
theorem l02Pair_spec {a b : T} {va vb : Value} (ha : RepV μ a.tm.d va) (hb : RepV μ b.tm.d vb) : Spec Tryz.prog 179 [va, vb] μ fun v μ' => RepV μ' (T.pair a b).tm.d v := by
 have w_ := Tm.invV ha
 obtain ⟨p, rfl⟩ := w_
 have w_ := Tm.invV hb
 obtain ⟨q, rfl⟩ := w_
 refine Spec.mk Tryz.func179 (by kernel_rfl) ?_
 intro r1 r2 r3 r4
 refine rFz [3] fun μ' hle hno hrow => .inl ?_
 rw [T.tm, Tm.d_mk]
 exact ⟨_, rfl, RepS.int (RepS.int (RepS.str (RepS.last (Rows.sl hrow (.cons (ha.mono hle) (Tm.d_n _) (.cons (hb.mono hle) (Tm.d_n _) .nil)) (show 2 ≤ maxLen by decide)))))⟩
end
end Go.Vx
namespace Go.Vx
open Go.Proofs Classical
theorem T.d_eq (x : T) : x.tm.d = .st [.i x.tm.kind, .i x.tm.num, .s x.tm.name, .sl 4 ((x.args.map T.tm).map Tm.d)] := by
 rw [Tm.d_eq, T.tm_args]
theorem T.inv {μ : Mem} {x : T} {w : Value} (hw : RepV μ x.tm.d w) : ∃ base cap, w = .agg #[.int .i64 x.tm.kind, .int .i64 x.tm.num, .string x.tm.name, .slice base x.args.length cap] ∧ Sl μ 4 base x.args.length ((x.args.map T.tm).map Tm.d) := by
 have h1 := Tm.inv (k := x.tm.kind) (n := x.tm.num) (s := x.tm.name) (l := x.tm.args) (v := w) (by cases x <;> exact hw)
 rw [T.tm_args, List.length_map] at h1
 exact h1
theorem T.args_le (x : T) : x.args.length ≤ 2 := by cases x <;> simp [T.args]
theorem l02Copy_spec : ∀ (x : T) {μ : Mem} {v : Value}, RepV μ x.tm.d v → Spec Tryz.prog 162 [v] μ fun v μ' => RepV μ' x.tm.d v :=
 T.ind fun x ih μ v hv => by
  have w_ := T.inv hv
  obtain ⟨base, cap, rfl, hsl⟩ := w_
  have hn := T.args_le x
  refine Spec.mk Tryz.func162 (by kernel_rfl) ?_
  intro r1 r2 r3
  refine loop_nil (fun p : Nat × Option Nat × Nat × List Value × Mem => p.1 ≤ x.args.length ∧ μ.Le p.2.2.2.2 ∧ Rows p.2.2.2.2 4 (((x.args.take p.1).map T.tm).map Tm.d) p.2.2.2.1)
   (fun (i, b, c, ys, μ') => ⟨[(2, .loc 1 r2 0), (3, .loc 2 r3 0), (14, .val (.slice base x.args.length cap)), (15, .val (.int .i64 x.args.length)), (16, .val (.int .i64 i))],
    [(1, some (.cells r2 [.val (.int .i64 0), .val (.int .i64 0), .val (.string ⟨#[]⟩), .val (.slice none 0 0)] 50)), (2, some (.cells r3 [.val (.int .i64 x.tm.kind), .val (.int .i64 x.tm.num), .val (.string x.tm.name), .row 3 b ys.length c] 50)), (3, some (.row b c 50 4 ys))], 4, μ', Mem.nil⟩) (fun p => x.args.length - p.1)
   (0, none, 0, [], μ) ⟨by simp, Mem.Le.refl μ, .nil⟩ (fun (_, _, _, _, _) => ⟨rfl, rfl⟩) ⟨⟨⟨_, rfl, .inl rfl⟩, ⟨_, rfl, .inl rfl⟩, ⟨_, rfl, .inl rfl⟩, ⟨_, rfl, .inl rfl⟩, ⟨_, rfl, .inl rfl⟩, trivial⟩, ⟨.inl rfl, .inr (.inr ⟨_, _, _, _, rfl, rfl, .inl rfl, .inl rfl, .inl rfl, .inr ⟨3, rfl, rfl, Nat.le_refl _⟩, trivial⟩), .inr (.inl ⟨_, _, rfl, Nat.le_refl _⟩), trivial⟩, rfl, rfl⟩ ?_
  rintro ⟨i, b, c, ys, μ'⟩ ⟨hi, hle, hrows⟩
  dsimp only at hi hle hrows
  have hlen := hrows.len
  simp only [List.length_map, List.length_take] at hlen
  refine ifd (fun h => ?_) (fun h => ?_)
  ·have w_ := aSo (l := x.args) (i := i) (by omega)
   obtain ⟨t, ht⟩ := w_
   have ht' : (x.args.map T.tm)[i]? = some t.tm := by simp [ht]
   have w_ := Tm.elem (hsl.mono hle) ht'
   obtain ⟨ad, p, hel, hr⟩ := w_
   refine eIn hel ?_
   intro r4
   refine cPl (ih t (mAt ht) hr) fun v' μ'' hle2 hR => ?_
   have w_ := Tm.invV hR
   obtain ⟨q, rfl⟩ := w_
   intro r5
   refine gIn ?_ ?_ fun b' c' _ => ?_
   ·show (ys.length + 1) * 56 ≤ _; omega
   ·show ys.length + 1 ≤ 9223372036854775807; omega
   have hsucc : ((x.args.take (i + 1)).map T.tm).map Tm.d = ((x.args.take i).map T.tm).map Tm.d ++ [t.tm.d] := by
    rw [List.take_add_one, ht, Option.toList_some]; simp
   exact num64 (by omega) (by omega) ⟨(i + 1, b', c', _, μ''), ⟨by dsimp only; omega, hle.trans hle2, by rw [hsucc]; exact (hrows.mono hle2).append (Rows.one hR (Tm.d_n _))⟩, by dsimp only; omega, ⟨⟨rfl, rfl, rfl, rfl, rfl, trivial⟩, ⟨rfl, rfl, rfl, trivial⟩, rfl, rfl⟩⟩
  ·obtain rfl : i = x.args.length := by omega
   rw [List.take_length] at hrows
   refine rFz [3] fun μ2 hle2 hno hrow => .inl ?_
   rw [T.d_eq]
   exact ⟨_, rfl, RepS.int (RepS.int (RepS.str (RepS.last (Rows.sl hrow (hrows.mono hle2) (Nat.le_trans (m := 10) (by omega) (by decide))))))⟩
end Go.Vx
namespace Go.Vx
open Go.Proofs Classical
section
variable {μ : Mem}
theorem T.leaf_own {x : T} {v : Value} (h : x.args = []) (hv : RepV μ x.tm.d v) : OwnV x.tm.d Mem.nil v := by
 have w_ := T.inv hv
 obtain ⟨base, cap, rfl, _⟩ := w_
 rw [T.d_eq, h]
 rw [T.d_eq, h] at hv
 obtain ⟨cs, e, h1⟩ := hv
 obtain ⟨_, _, rfl, rfl, _, _, rfl, rfl, _, _, rfl, rfl, _, _, rfl, h7, rfl⟩ := h1
 obtain ⟨b, c, rfl, hl, _, _⟩ := h7
 exact ⟨_, e, OwnS.int (OwnS.int (OwnS.str (OwnS.last ⟨b, c, rfl, hl, by simp, .inl ⟨rfl, rfl⟩⟩)))⟩
theorem T.leaf_fresh {x : T} {v : Value} {μ' : Mem} (h : x.args = []) (hv : RepV μ x.tm.d v) : Fresh μ μ' x.tm.d v := ⟨Mem.nil, T.leaf_own h hv, (fun _ _ h => nomatch h), fun _ h => absurd rfl h⟩
theorem two_fresh {μ1 μ2 : Mem} {a b : D} {va vb : Value} (na : a.n = 4) (nb : b.n = 4) (h1 : μ.Le μ1) (h2 : μ1.Le μ2) (ha : Fresh μ μ1 a va) (hb : Fresh μ1 μ2 b vb) : ∃ g, OwnRows 4 [a, b] [va, vb] g ∧ g.Le μ2 ∧ ∀ x, g x ≠ none → μ x = none := by
 obtain ⟨ga, a1, a2, a3⟩ := ha
 obtain ⟨gb, b1, b2, b3⟩ := hb
 have hap := fresh_apart a2 b3
 have k1 := (OwnRows.nil 4).snoc a1 na (Apart.nil_left _)
 have k2 := k1.snoc b1 nb (fun x hx => hap x (by
  rcases join_ne hx with h | h
  ·exact absurd rfl h
  ·exact h))
 refine ⟨_, k2, join_le (join_le (fun _ _ h => nomatch h) (a2.trans h2)) b2, fun x hx => ?_⟩
 rcases join_ne hx with h | h
 ·rcases join_ne h with h | h
  ·exact absurd rfl h
  ·exact a3 x h
 ·cases h0 : μ x with
  | none => rfl
  | some o => have := b3 x h; rw [h1 x o h0] at this; cases this
theorem pair_spec {a b : T} {va vb : Value} {μ0 g : Mem} (ha : RepV μ a.tm.d va) (hb : RepV μ b.tm.d vb) (hg : OwnRows 4 [a.tm.d, b.tm.d] [va, vb] g) (h1 : g.Le μ) (h2 : ∀ x, g x ≠ none → μ0 x = none) (h3 : μ0.Le μ) :
  Spec Tryz.prog 184 [va, vb] μ fun v μ' => Fresh μ0 μ' (T.pair a b).tm.d v := by
 have w_ := Tm.invV ha
 obtain ⟨p, rfl⟩ := w_
 have w_ := Tm.invV hb
 obtain ⟨q, rfl⟩ := w_
 refine Spec.mk Tryz.func184 (by kernel_rfl) ?_
 intro r1 r2 r3 r4
 refine rFz [3] fun μ' hle hno hrow => .inl ?_
 have hf := Fresh.ofRow hg h1 h2 h3 hle hno hrow (show 2 ≤ maxLen by decide)
 obtain ⟨gg, k1, k2, k3⟩ := hf
 rw [T.d_eq]
 exact ⟨gg, ⟨_, rfl, OwnS.int (OwnS.int (OwnS.str (OwnS.last k1)))⟩, k2, k3⟩
theorem copyTerm_spec : ∀ (x : T) {μ : Mem} {v : Value}, RepV μ x.tm.d v → Spec Tryz.prog 155 [v] μ fun v μ' => Fresh μ μ' x.tm.d v := by
 intro x
 induction x with
 | pair a b iha ihb =>
  intro μ v hv
  have w_ := Tm.inv hv
  obtain ⟨base', cap', rfl, hsa⟩ := w_
  have w_ := T.parts hsa
  obtain ⟨ad, ad', p, p', h1, h2, hra, hrb⟩ := w_
  refine Spec.mk Tryz.func155 (by kernel_rfl) ?_
  intro r1 r2
  refine ifnd (fun h => absurd rfl h) (fun _ => ?_)
  refine eIn h1 ?_
  refine eIn h2 ?_
  refine cPl (iha hra) fun v1 μ1 hle1 hR1 => ?_
  refine cPl (ihb (hrb.mono hle1)) fun v2 μ2 hle2 hR2 => ?_
  have w_ := two_fresh (Tm.d_n _) (Tm.d_n _) hle1 hle2 hR1 hR2
  obtain ⟨g, k1, k2, k3⟩ := w_
  have w_ := Tm.invV hR1.rep
  obtain ⟨q1, rfl⟩ := w_
  have w_ := Tm.invV hR2.rep
  obtain ⟨q2, rfl⟩ := w_
  intro r3
  refine rFz [2] fun μ' hle hno hrow => .inl ?_
  have w_ := Fresh.ofRow k1 k2 k3 (hle1.trans hle2) hle hno hrow (show 2 ≤ maxLen by decide)
  obtain ⟨gg, g1, g2, g3⟩ := w_
  rw [T.d_eq]
  exact ⟨gg, ⟨_, rfl, OwnS.int (OwnS.int (OwnS.str (OwnS.last g1)))⟩, g2, g3⟩
 | _ =>
  intro μ v hv
  have w_ := Tm.inv hv
  obtain ⟨base', cap', rfl, hsa⟩ := w_
  refine Spec.mk Tryz.func155 (by kernel_rfl) ?_
  intro r1 r2
  refine ifnd (fun _ => ?_) (fun h => absurd h (by simp))
  refine rPl ?_
  rw [T.d_eq]
  exact ⟨Mem.nil, ⟨_, rfl, OwnS.int (OwnS.int (OwnS.str (OwnS.last (Own.nilSl 4))))⟩, (fun _ _ h => nomatch h), fun _ h => absurd rfl h⟩
def LooksOn (Q : Int → Prop) (k : FuncId) (caps : List Value) (μ : Mem) (f : Int → Option T) : Prop :=
 ∀ μ', μ.Le μ' → ∀ n, Q n → Spec Tryz.prog k (.int .i64 n :: caps) μ' fun v μ'' => optV (fun y tv => RepV μ'' y.tm.d tv) (f n) v
theorem mapVars_specQ {Q : Int → Prop} {k : FuncId} {caps : List Value} {f : Int → Option T} : ∀ (x : T) {μ : Mem} {v : Value}, (∀ n ∈ x.vars, Q n) → LooksOn Q k caps μ f → RepV μ x.tm.d v →
  Spec Tryz.prog 135 [v, .func (.func k) #[] caps.toArray] μ fun v μ' => Fresh μ μ' (x.subst f).tm.d v := by
 intro x
 induction x with
 | var n =>
  intro μ v hQ hk hv
  have w_ := Tm.invV hv
  obtain ⟨p, rfl⟩ := w_
  refine Spec.mk Tryz.func135 (by kernel_rfl) ?_
  intro r1 r2
  refine ifd (fun _ => ?_) (fun h => absurd rfl h)
  refine cPl (hk μ (Mem.Le.refl μ) n (hQ n (by simp [T.vars]))) fun v' μ' hle hR => ?_
  simp only [T.subst]
  cases hs : f n with
  | some y =>
   rw [hs] at hR
   obtain ⟨tv, rfl, htv⟩ := hR
   have w_ := Tm.invV htv
   obtain ⟨q, rfl⟩ := w_
   intro r3
   refine iIn (fun _ => ?_) (fun h => nomatch h)
   refine cPl (copyTerm_spec y htv) fun v2 μ2 hle2 hR2 => ?_
   have w_ := Tm.invV hR2.rep
   obtain ⟨q2, rfl⟩ := w_
   exact rPl (hR2.mono hle (Mem.Le.refl _))
  | none =>
   rw [hs] at hR
   obtain rfl := hR
   intro r3
   refine iIn (fun h => nomatch h) (fun _ => ?_)
   exact rPl (T.leaf_fresh rfl hv)
 | pair a b iha ihb =>
  intro μ v hQ hk hv
  have w_ := Tm.inv hv
  obtain ⟨base', cap', rfl, hsa⟩ := w_
  have w_ := T.parts hsa
  obtain ⟨ad, ad', p, p', h1, h2, hra, hrb⟩ := w_
  refine Spec.mk Tryz.func135 (by kernel_rfl) ?_
  intro r1 r2
  refine ifd (fun h => absurd h (by simp)) (fun _ => ?_)
  refine ifd (fun _ => ?_) (fun h => absurd rfl h)
  refine eIn h1 ?_
  refine eIn h2 ?_
  refine cPl (iha (fun n hn => hQ n (by simp [T.vars, hn])) hk hra) fun v1 μ1 hle1 hR1 => ?_
  refine cPl (ihb (fun n hn => hQ n (by simp [T.vars, hn])) (fun μ' h => hk μ' (hle1.trans h)) (hrb.mono hle1)) fun v2 μ2 hle2 hR2 => ?_
  have w_ := two_fresh (Tm.d_n _) (Tm.d_n _) hle1 hle2 hR1 hR2
  obtain ⟨g, k1, k2, k3⟩ := w_
  refine cPl (pair_spec (hR1.rep.mono hle2) hR2.rep k1 k2 k3 (hle1.trans hle2)) fun v3 μ3 hle3 hR3 => ?_
  have w_ := Tm.invV hR3.rep
  obtain ⟨q, rfl⟩ := w_
  exact rPl hR3
 | _ =>
  intro μ v hQ hk hv
  have w_ := Tm.invV hv
  obtain ⟨p, rfl⟩ := w_
  refine Spec.mk Tryz.func135 (by kernel_rfl) ?_
  intro r1 r2
  refine ifd (fun h => absurd h (by simp [T.tm, Tm.kind])) (fun _ => ?_)
  refine ifd (fun h => absurd h (by simp [T.tm, Tm.kind])) (fun _ => ?_)
  exact rPl (T.leaf_fresh rfl hv)
end
end Go.Vx
namespace Go.Vx
open Go.Proofs Classical
def Srt (bs : List B) : Prop := ∀ (i j : Nat) b c, i < j → bs[i]? = some b → bs[j]? = some c → b.var < c.var
section
variable {μ : Mem}
theorem B.elem {bs : List B} {base : Option Addr} {n : Nat} (h : Sl μ 5 base n ((bs.map B.bd).map Bd.d)) {i : Nat} {b : B} (hb : bs[i]? = some b) : ∃ ad, ∃ p : Option Addr × Nat, ElemAt μ base n 5 i ad (b.bd.cs p) ∧ RepV μ b.to.tm.d (.agg (b.to.tm.cs p).toArray) := by
 have hb' : (bs.map B.bd)[i]? = some b.bd := by simp [hb]
 have w_ := Bd.elem h hb'
 obtain ⟨ad, p, h1, h2⟩ := w_
 exact ⟨ad, p, h1, Bd.toV h2⟩
end
end Go.Vx
namespace Go.Vx
open Go.Proofs Classical
theorem sub_none : ∀ {bs : List B} {n : Int}, (∀ b ∈ bs, b.var ≠ n) → sub bs n = none
 | [], _, _ => rfl
 | c :: bs, n, h => by
  rw [sub, if_neg (h c (by simp))]
  exact sub_none fun b hb => h b (by simp [hb])
theorem valsOk.srt {l : List Bd} (h : valsOk l) : Srt (l.map Bd.b) := by
 intro i j b c hij hb hc
 simp only [List.getElem?_map, Option.map_eq_some_iff] at hb hc
 obtain ⟨b, hb, rfl⟩ := hb
 obtain ⟨c, hc, rfl⟩ := hc
 show b.var < c.var
 induction j generalizing c with
 | zero => omega
 | succ j ih =>
  have hj : j < l.length := by have := (List.getElem?_eq_some_iff.1 hc).1; omega
  have w_ := aSo hj
  obtain ⟨d, hd⟩ := w_
  have h1 := (h.2 (j + 1) c hc).2.2 j d rfl hd
  rcases Nat.lt_or_ge i j with h2 | h2
  ·have := ih h2 d hd; omega
  ·obtain rfl : i = j := by omega
   rw [hb] at hd; cases hd; exact h1
section
variable {μ : Mem}
noncomputable def fit (x : T) : Option T := if x.size ≤ 5000 then some x else none
end
end Go.Vx
namespace Go.Vx
open Go.Proofs Classical
theorem tm_cnt_sz : ∀ t : Tm, t.d.cnt ≤ 3 + 3 * t.d.sz :=
 Tm.ind fun k n s l ih => by
  have : D.cnts (l.map Tm.d) ≤ 3 * l.length + 3 * D.szs (l.map Tm.d) := by
   induction l with
   | nil => simp [D.cnts, D.szs]
   | cons t l ih2 =>
    have h1 := ih t (by simp)
    have h2 := ih2 fun t ht => ih t (by simp [ht])
    simp only [List.map_cons, D.cnts, D.szs, List.length_cons]; omega
  rw [Tm.cnt_eq, Tm.d_mk]
  show 3 + D.cnts (l.map Tm.d) ≤ _
  simp only [D.sz, D.szs, List.length_map]
  omega
end Go.Vx
namespace Go.Vx
open Go.Proofs Classical
def sgn (b : Bool) : Int := if b then -1 else 1
noncomputable def hdCmp (x y : Tm) (rest : Int) : Int :=
 if x.kind ≠ y.kind then sgn (decide (x.kind < y.kind)) else if x.num ≠ y.num then sgn (decide (x.num < y.num)) else if x.name ≠ y.name then sgn (Op.bytesLess x.name.data.toList y.name.data.toList) else rest
noncomputable def T.cmp : T → T → Int
 | .pair a b, .pair c d => if a.cmp c = 0 then b.cmp d else a.cmp c
 | .pair a b, .nil => hdCmp (T.pair a b).tm T.nil.tm 0
 | .pair a b, .var n => hdCmp (T.pair a b).tm (T.var n).tm 0
 | .pair a b, .sym n => hdCmp (T.pair a b).tm (T.sym n).tm 0
 | .pair a b, .num n => hdCmp (T.pair a b).tm (T.num n).tm 0
 | .nil, y => hdCmp T.nil.tm y.tm 0
 | .var n, y => hdCmp (T.var n).tm y.tm 0
 | .sym n, y => hdCmp (T.sym n).tm y.tm 0
 | .num n, y => hdCmp (T.num n).tm y.tm 0
theorem hd2 {x y : Tm} {r : Int} (h1 : x.kind = y.kind) (h : ¬ x.num = y.num) : hdCmp x y r = sgn (decide (x.num < y.num)) := by rw [hdCmp, if_neg (fun k => k h1), if_pos h]
section
variable {μ : Mem}
noncomputable def T.rest : T → T → Int
 | .pair a b, .pair c d => if a.cmp c = 0 then b.cmp d else a.cmp c
 | _, _ => 0
def varV (n : Int) : Value := .agg #[.int .i64 1, .int .i64 n, .string ⟨#[]⟩, .slice none 0 0]
theorem varV_own (n : Int) : OwnV (T.var n).tm.d Mem.nil (varV n) := by
 rw [T.d_eq]
 exact ⟨_, rfl, OwnS.int (OwnS.int (OwnS.str (OwnS.last (Own.nilSl 4))))⟩
theorem varV_rep (n : Int) : RepV μ (T.var n).tm.d (varV n) := (varV_own n).rep (fun _ _ h => nomatch h)
theorem variable_spec (n : Int) : Gives Tryz.prog 74 [.int .i64 n] μ (varV n) := by
 refine Spec.mk Tryz.func74 (by kernel_rfl) ?_
 intro r1
 exact rGv rfl rfl
theorem l02Var_spec (n : Int) : Gives Tryz.prog 63 [.int .i64 n] μ (varV n) := by
 refine Spec.mk Tryz.func63 (by kernel_rfl) ?_
 intro r1
 exact rGv rfl rfl
end
end Go.Vx
namespace Go.Vx
open Go.Proofs Classical
def bndOk (bs : List B) (b : B) : Prop := ¬ (b.to.tm.kind = 1 ∧ b.var ≤ b.to.tm.num) ∧ ∀ n ∈ b.to.vars, sub bs n = none
def substOk (l : List Bd) : Prop := valsOk l ∧ ∀ b ∈ l.map Bd.b, bndOk (l.map Bd.b) b
theorem B.bd_b (b : B) : b.bd.b = b := by
 cases b; simp [B.bd, Bd.b, T.toT_tm]
theorem B.map_b (bs : List B) : (bs.map B.bd).map Bd.b = bs := by
 rw [List.map_map]
 conv => rhs; rw [← List.map_id bs]
 exact List.map_congr_left fun b _ => B.bd_b b
structure Vals (bs : List B) : Prop where
 ok : valsOk (bs.map B.bd)
theorem Vals.len {bs : List B} (h : Vals bs) : bs.length ≤ 400 := by have := h.ok.1; simpa using this
theorem Vals.srt {bs : List B} (h : Vals bs) : Srt bs := by have := h.ok.srt; rwa [B.map_b] at this
theorem Vals.var {bs : List B} (h : Vals bs) : ∀ b ∈ bs, 0 ≤ b.var ∧ b.var ≤ 100000 := fun b hb => by
 have w_ := List.mem_iff_getElem?.1 hb
 obtain ⟨i, hi⟩ := w_
 exact (h.ok.2 i b.bd (by simp [hi])).1
theorem valsOk.vals {l : List Bd} (h : valsOk l) : ∃ bs : List B, l = bs.map B.bd ∧ Vals bs := ⟨l.map Bd.b, h.lift.1.symm, ⟨by rw [h.lift.1]; exact h⟩⟩
structure Subst (bs : List B) : Prop where
 vals : Vals bs
 bnd : ∀ b ∈ bs, bndOk bs b
theorem substOk_iff (bs : List B) : substOk (bs.map B.bd) ↔ Subst bs := by
 unfold substOk
 rw [B.map_b]
 exact ⟨fun h => ⟨⟨h.1⟩, h.2⟩, fun h => ⟨h.1.1, h.2⟩⟩
theorem substOk.subst {l : List Bd} (h : substOk l) : ∃ bs : List B, l = bs.map B.bd ∧ Subst bs := by
 obtain ⟨bs, rfl, _⟩ := h.1.vals
 exact ⟨bs, rfl, (substOk_iff bs).1 h⟩
section
variable {μ : Mem}
end
end Go.Vx
namespace Go.Vx
open Go.Proofs Classical
theorem var_wd {n : Int} (h : 0 ≤ n ∧ n ≤ 100000) : (T.var n).tm.d.wd := by
 rw [T.d_eq]
 exact ⟨⟨show (-9223372036854775808 : Int) ≤ 1 by decide, show (1 : Int) ≤ 9223372036854775807 by decide⟩, ⟨show _ ≤ n by omega, show n ≤ _ by omega⟩, Nat.zero_le _, trivial, trivial⟩
theorem T.good_subst {f : Int → Option T} (hf : ∀ n y, f n = some y → y.good) : ∀ {x : T}, x.good → (x.subst f).good
 | .var n, h => by
  simp only [T.subst]
  cases e : f n with
  | none => exact h
  | some y => exact hf n y e
 | .pair a b, h => ⟨T.good_subst hf h.1, T.good_subst hf h.2⟩
 | .nil, h => h
 | .sym _, h => h
 | .num _, h => h
theorem T.good_wd : ∀ {x : T}, x.good → x.tm.d.wd
 | .nil, _ => by
  rw [T.d_eq]
  exact ⟨⟨show (-9223372036854775808 : Int) ≤ 0 by decide, show (0 : Int) ≤ 9223372036854775807 by decide⟩, ⟨show (-9223372036854775808 : Int) ≤ 0 by decide, show (0 : Int) ≤ 9223372036854775807 by decide⟩, Nat.zero_le _, trivial, trivial⟩
 | .var n, h => var_wd h
 | .sym s, h => by
  rw [T.d_eq]
  exact ⟨⟨show (-9223372036854775808 : Int) ≤ 2 by decide, show (2 : Int) ≤ 9223372036854775807 by decide⟩, ⟨show (-9223372036854775808 : Int) ≤ 0 by decide, show (0 : Int) ≤ 9223372036854775807 by decide⟩, Nat.le_trans h.2.1 (by decide), trivial, trivial⟩
 | .num n, h => by
  have h1 : -1000000000 ≤ n ∧ n ≤ 1000000000 := h
  rw [T.d_eq]
  exact ⟨⟨show (-9223372036854775808 : Int) ≤ 3 by decide, show (3 : Int) ≤ 9223372036854775807 by decide⟩, ⟨show _ ≤ n by omega, show n ≤ _ by omega⟩, Nat.zero_le _, trivial, trivial⟩
 | .pair a b, h => by
  rw [T.d_eq]
  exact ⟨⟨show (-9223372036854775808 : Int) ≤ 4 by decide, show (4 : Int) ≤ 9223372036854775807 by decide⟩, ⟨show (-9223372036854775808 : Int) ≤ 0 by decide, show (0 : Int) ≤ 9223372036854775807 by decide⟩, Nat.zero_le _, ⟨T.good_wd h.1, T.good_wd h.2, trivial⟩, trivial⟩
theorem goods_wd : ∀ {l : List T}, (∀ x ∈ l, x.good) → D.wds ((l.map T.tm).map Tm.d)
 | [], _ => trivial
 | x :: l, h => ⟨T.good_wd (h x (by simp)), goods_wd fun y hy => h y (by simp [hy])⟩
end Go.Vx
namespace Go.Vx
open Go.Proofs Classical
section
variable {P : Program} {f : FuncId} {args : List Value} {μ h H : Mem}
theorem Mem.set_at (m : Mem) (r : Nat) (o : Obj) : (m.set r o) r = some o := by rw [Mem.set_get, if_pos rfl]
theorem Mem.set_ne {m : Mem} {b r : Nat} {o : Obj} (h : b ≠ r) : (m.set r o) b = m b := by rw [Mem.set_get, if_neg h]
theorem ne_of_obj {a b : Nat} {x y : Obj} (h1 : h a = some x) (h2 : h b = some y) (hne : x ≠ y) : a ≠ b := fun e => by
 subst e; rw [h1] at h2; cases h2; exact hne rfl
theorem ne_of_none {a b : Nat} {x : Obj} (h1 : h a = some x) (h2 : h b = none) : a ≠ b := fun e => by
 subst e; rw [h1] at h2; cases h2
theorem Apart.set {r : Nat} {o : Obj} (k : Apart μ h) (hr : μ r = none) : Apart μ (h.set r o) := fun b hb => by
 by_cases e : b = r
 ·subst e; exact absurd hr hb
 ·rw [Mem.set_ne e]; exact k b hb
theorem RowO.set_ne {r cap b : Nat} {ty : TypeId} {es : Nat} {xs : List Value} {o : Obj} (k : RowO h r cap ty es xs) (hb : r ≠ b) : RowO (h.set b o) r cap ty es xs := by
 obtain ⟨cs, h1, h2⟩ := k
 exact ⟨cs, by rw [Mem.set_ne hb]; exact h1, h2⟩
theorem RowO.rowAt {r cap : Nat} {ty : TypeId} {es : Nat} {xs : List Value} (k : RowO h r cap ty es xs) (hl : h.Le μ) : RowAt μ (some r) cap es xs := by
 obtain ⟨cs, h1, h2, h3, h4, h5, h6⟩ := k
 exact ⟨h2, h4, cs.toArray, ty, hl _ _ h1, by simpa using h5, by simpa using h6⟩
theorem RowO.len {r cap : Nat} {ty : TypeId} {es : Nat} {xs : List Value} (k : RowO h r cap ty es xs) : xs.length ≤ maxLen := by
 obtain ⟨cs, h1, h2, h3, _⟩ := k
 exact h3
theorem RowO.rep {r cap : Nat} {ty : TypeId} {es : Nat} {xs : List Value} {ds : List D} (k : RowO h r cap ty es xs) (hl : h.Le μ) (hr : Rows μ es ds xs) : RepV μ (.sl es ds) (.slice (some ⟨r, 0, none⟩) xs.length cap) :=
 Rows.sl (k.rowAt hl) hr k.len
def IntKey (v : Value) : Prop := ∃ n, v = .int .i64 n
theorem MapOk.weaken {ok ok' : Value → Prop} {l : List (Value × Value)} (k : MapOk ok l) (hk : ∀ v, ok v → ok' v) : MapOk ok' l := ⟨fun p hp => hk _ (k.keys p hp), k.nodup⟩
theorem MapOk.int {l : List (Value × Value)} (k : MapOk IntKey l) {n : Int} (v : Value) : MapOk IntKey (mset l (.int .i64 n) v) := k.set ⟨n, rfl⟩ v
theorem mget_int (l : List (Value × Value)) (n m : Int) (v : Value) : mget (mset l (.int .i64 n) v) (.int .i64 m) = if m = n then some v else mget l (.int .i64 m) := by
 rw [mget_mset]
 by_cases e : m = n
 ·subst e; rw [if_pos rfl, if_pos rfl]
 ·rw [if_neg e, if_neg (by simp [e])]
def Grown (es : Nat) (μ μ' : Mem) (ds : List D) (ys : List Value) : Prop := ∃ g, OwnRows es ds ys g ∧ g.Le μ' ∧ ∀ b, g b ≠ none → μ b = none
theorem Grown.nil (es : Nat) (μ μ' : Mem) : Grown es μ μ' [] [] := ⟨Mem.nil, OwnRows.nil es, (fun _ _ h => nomatch h), fun _ h => absurd rfl h⟩
theorem Grown.snoc {es : Nat} {μ μ' μ'' : Mem} {ds : List D} {ys : List Value} {d : D} {v : Value} (k : Grown es μ μ' ds ys) (h0 : μ.Le μ') (hv : Fresh μ' μ'' d v) (h1 : μ'.Le μ'') (hn : d.n = es) : Grown es μ μ'' (ds ++ [d]) (ys ++ [v]) := by
 obtain ⟨g, a, b, c⟩ := k
 obtain ⟨g', a', b', c'⟩ := hv
 refine ⟨g.join g', a.snoc a' hn (fresh_apart b c'), join_le (b.trans h1) b', fun x hx => ?_⟩
 rcases join_ne hx with h | h
 ·exact c x h
 ·have h3 := c' x h
  cases h4 : μ x with
  | none => rfl
  | some o => rw [h0 x o h4] at h3; cases h3
theorem Grown.mono {es : Nat} {μ μ' μ'' : Mem} {ds : List D} {ys : List Value} (k : Grown es μ μ' ds ys) (h : μ'.Le μ'') : Grown es μ μ'' ds ys := by
 obtain ⟨g, a, b, c⟩ := k
 exact ⟨g, a, b.trans h, c⟩
theorem Grown.len {es : Nat} {μ μ' : Mem} {ds : List D} {ys : List Value} (k : Grown es μ μ' ds ys) : ds.length = ys.length := by
 obtain ⟨g, a, _⟩ := k
 exact a.len
theorem Grown.fresh {es : Nat} {μ μ1 μ' : Mem} {b : Option Nat} {cap : Nat} {ds : List D} {ys : List Value} (k : Grown es μ μ1 ds ys) (h0 : μ.Le μ1) (h1 : μ1.Le μ') (hb : ∀ r, b = some r → μ1 r = none) (hr : RowAt μ' b cap es ys) (hm : ys.length ≤ maxLen) :
  Fresh μ μ' (.sl es ds) (.slice (b.map fun r => ⟨r, 0, none⟩) ys.length cap) := by
 obtain ⟨g, a, b', c⟩ := k
 exact Fresh.ofRow a b' c h0 h1 hb hr hm
variable {dr : Bool} {s : St} {K : Value → St → Prop}
end
section
variable {μ : Mem}
theorem eachVar_rel {S : Type} (J : S → Mem → Prop) (step : S → Int → S) (Q : S → Int → Prop) {k : FuncId} {caps : List Value}
  (hc : ∀ s h n, Q s n → J s h → SpecH Tryz.prog k (.int .i64 n :: caps) μ h fun r μ' h' => r = .tuple #[] ∧ μ' = μ ∧ J (step s n) h') :
  ∀ (x : T) {v : Value} (s : S) (h : Mem), RepV μ x.tm.d v → (∀ pre n post, x.vars = pre ++ n :: post → Q (pre.foldl step s) n) → J s h → SpecH Tryz.prog 173 [v, .func (.func k) #[] caps.toArray] μ h fun r μ' h' => r = .tuple #[] ∧ μ' = μ ∧ J (x.vars.foldl step s) h'
 | .var n, v, s, h, hv, hq, hj => by
  have w_ := Tm.inv hv
  obtain ⟨base, cap, rfl, hsl⟩ := w_
  refine SpecH.mk [] Tryz.func173 (by kernel_rfl) ?_
  intro r
  refine ifd (fun _ => ?_) (fun h => absurd rfl h)
  refine cOw (hc s h n (hq [] n [] rfl) hj) fun v μ' h' hle hap hR => ?_
  obtain ⟨rfl, e2, hj'⟩ := hR
  obtain rfl := e2.symm
  refine ifd (fun h => absurd h (by decide)) (fun _ => ?_)
  exact rPl ⟨rfl, rfl, hj'⟩
 | .nil, v, s, h, hv, hq, hj => by
  have w_ := Tm.inv hv
  obtain ⟨base, cap, rfl, hsl⟩ := w_
  refine SpecH.mk [] Tryz.func173 (by kernel_rfl) ?_
  intro r
  refine ifd (fun h => absurd h (by decide)) (fun _ => ?_)
  refine ifd (fun h => absurd h (by decide)) (fun _ => ?_)
  exact rPl ⟨rfl, rfl, hj⟩
 | .sym _, v, s, h, hv, hq, hj => by
  have w_ := Tm.inv hv
  obtain ⟨base, cap, rfl, hsl⟩ := w_
  refine SpecH.mk [] Tryz.func173 (by kernel_rfl) ?_
  intro r
  refine ifd (fun h => absurd h (by decide)) (fun _ => ?_)
  refine ifd (fun h => absurd h (by decide)) (fun _ => ?_)
  exact rPl ⟨rfl, rfl, hj⟩
 | .num _, v, s, h, hv, hq, hj => by
  have w_ := Tm.inv hv
  obtain ⟨base, cap, rfl, hsl⟩ := w_
  refine SpecH.mk [] Tryz.func173 (by kernel_rfl) ?_
  intro r
  refine ifd (fun h => absurd h (by decide)) (fun _ => ?_)
  refine ifd (fun h => absurd h (by decide)) (fun _ => ?_)
  exact rPl ⟨rfl, rfl, hj⟩
 | .pair a b, v, s, h, hv, hq, hj => by
  have w_ := Tm.inv hv
  obtain ⟨base, cap, rfl, hsl⟩ := w_
  have w_ := T.parts hsl
  obtain ⟨ad, ad', p, p', h1, h2, hra, hrb⟩ := w_
  refine SpecH.mk [] Tryz.func173 (by kernel_rfl) ?_
  intro r
  refine ifd (fun h => absurd h (by decide)) (fun _ => ?_)
  refine ifd (fun _ => ?_) (fun h => absurd rfl h)
  refine eIn h1 (cOw (eachVar_rel J step Q hc a s h hra (fun pre n post e => hq pre n (post ++ b.vars) (by simp [T.vars, e])) hj) fun v μ' h' hle hap hR => ?_)
  obtain ⟨rfl, e2, hj'⟩ := hR
  obtain rfl := e2.symm
  refine eIn h2 (cOw (eachVar_rel J step Q hc b _ h' hrb (fun pre n post e => by
   have := hq (a.vars ++ pre) n post (by simp [T.vars, e])
   rwa [List.foldl_append] at this) hj') fun v μ' h' hle hap hR => ?_)
  obtain ⟨rfl, e2, hj'⟩ := hR
  obtain rfl := e2.symm
  exact rPl ⟨rfl, rfl, by simpa [T.vars, List.foldl_append] using hj'⟩
end
end Go.Vx
namespace Go.Vx
open Go.Proofs Classical
section
variable {μ : Mem}
theorem Rep.val : ∀ {d : D} {c : List Value}, Rep μ d c → ∃ v, RepV μ d v ∧ vcells v = c
 | .st fs, c, h => ⟨.agg c.toArray, ⟨c, rfl, h⟩, by simp [vcells]⟩
 | .i n, c, h => by
  have h2 : c = [.int .i64 n] := h
  subst h2; exact ⟨_, h, rfl⟩
 | .b x, c, h => by
  have h2 : c = [.bool x] := h
  subst h2; exact ⟨_, h, rfl⟩
 | .s x, c, h => by
  have h2 : c = [.string x] := h
  subst h2; exact ⟨_, h, rfl⟩
 | .sl es xs, c, h => by
  obtain ⟨base, cap, h1, h2⟩ := h
  subst h1
  exact ⟨_, ⟨base, cap, rfl, h2⟩, rfl⟩
theorem RepS.rows {es : Nat} : ∀ {l : List D} {flat : List Value}, RepS μ l flat → (∀ x ∈ l, x.n = es) → ∃ vs, Rows μ es l vs ∧ vs.flatMap vcells = flat
 | [], flat, h, _ => by
  have h : flat = [] := h
  subst h; exact ⟨[], .nil, rfl⟩
 | d :: l, flat, h, hn => by
  obtain ⟨c1, c2, rfl, h1, h2⟩ := h
  have w_ := Rep.val h1
  obtain ⟨v, hv, rfl⟩ := w_
  have w_ := RepS.rows h2 fun x hx => hn x (by simp [hx])
  obtain ⟨vs, hr, rfl⟩ := w_
  exact ⟨v :: vs, .cons hv (hn d (by simp)) hr, by simp⟩
theorem Rows.take {es : Nat} : ∀ {ds : List D} {vs : List Value} (k : Nat), Rows μ es ds vs → Rows μ es (ds.take k) (vs.take k)
 | _, _, 0, _ => by simpa using Rows.nil
 | _, _, k + 1, .nil => by simpa using Rows.nil
 | _, _, k + 1, .cons h hn r => by simpa using Rows.cons h hn (r.take k)
theorem Rows.drop {es : Nat} : ∀ {ds : List D} {vs : List Value} (k : Nat), Rows μ es ds vs → Rows μ es (ds.drop k) (vs.drop k)
 | _, _, 0, h => by simpa using h
 | _, _, k + 1, .nil => by simpa using Rows.nil
 | _, _, k + 1, .cons h hn r => by simpa using r.drop k
theorem Rows.size {es : Nat} : ∀ {ds : List D} {vs : List Value}, Rows μ es ds vs → ∀ v ∈ vs, (vcells v).length = es ∧ ∀ u ∈ vcells v, u.oneCell' = true
 | _, _, .nil, v, hv => by simp at hv
 | _, _, .cons h hn r, v, hv => by
  rcases List.mem_cons.1 hv with rfl | hv
  ·exact ⟨by rw [Rep.len _ _ h.cells]; exact hn, Rep.one _ _ h.cells⟩
  ·exact r.size v hv
theorem Rep.src {es n cap : Nat} {base : Option Addr} {ds : List D} (h : RepV μ (.sl es ds) (.slice base n cap)) :
  ∃ vs, Rows μ es ds vs ∧ vs.length = n ∧ n ≤ cap ∧ ∀ a b, a ≤ b → b ≤ n → SrcAt μ (if cap = a then base else base.map (·.add (a * es))) (b - a) es ((vs.drop a).take (b - a)) := by
 have h' : Rep μ (.sl es ds) [.slice base n cap] := h
 have hcap := Rep.lens h'
 obtain ⟨b0, c0, h1, h2, h3, h4⟩ := h'
 simp only [List.cons.injEq, and_true] at h1
 have w_ := Value.slice.inj h1
 obtain ⟨rfl, rfl, rfl⟩ := w_
 have : ∃ vs, Rows μ es ds vs ∧ (ds = [] ∨ ∃ a0, base = some a0 ∧ CellsAt μ a0 (vs.flatMap vcells)) := by
  rcases h4 with rfl | ⟨a0, flat, g1, g2, g3⟩
  ·exact ⟨[], .nil, .inl rfl⟩
  ·have w_ := RepS.rows g3 h3
   obtain ⟨vs, hr, rfl⟩ := w_
   exact ⟨vs, hr, .inr ⟨a0, g1, g2⟩⟩
 obtain ⟨vs, hr, hc⟩ := this
 have hlen := hr.len
 refine ⟨vs, hr, hlen.symm, hcap, fun a b hab hb => ⟨by simp; omega, fun y hy => hr.size y (List.mem_of_mem_drop (List.mem_of_mem_take hy)), ?_⟩⟩
 rcases Nat.eq_or_lt_of_le hab with e | hlt
 ·exact .inl (by omega)
 ·right
  rcases hc with e | ⟨a0, e, hcell⟩
  ·subst e; simp at hb; omega
  ·subst e
   refine ⟨a0.add (a * es), by rw [if_neg (by omega)]; rfl, fun j v hj => ?_⟩
   rw [add_add]
   refine hcell _ _ ?_
   have e1 : vs.flatMap vcells = (vs.take a).flatMap vcells ++ (((vs.drop a).take (b - a)).flatMap vcells ++ ((vs.drop a).drop (b - a)).flatMap vcells) := by
    rw [← List.flatMap_append, List.take_append_drop, ← List.flatMap_append, List.take_append_drop]
   have e2 : ((vs.take a).flatMap vcells).length = a * es := by
    rw [flat_len (es := es) (vs.take a) fun y hy => (hr.size y (List.mem_of_mem_take hy)).1]
    congr 1; simp; omega
   rw [e1, List.getElem?_append_right (by omega), e2, Nat.add_sub_cancel_left, List.getElem?_append_left (List.getElem?_eq_some_iff.1 hj).1]
   exact hj
theorem idx_at : ∀ {l : List Int} (_ : l.Nodup) {i : Nat} {n : Int}, l[i]? = some n → l.idxOf n = i
 | [], _, i, n, h => by simp at h
 | a :: l, hn, 0, n, h => by
  simp only [List.getElem?_cons_zero, Option.some.injEq] at h
  subst h; simp
 | a :: l, hn, i + 1, n, h => by
  simp only [List.getElem?_cons_succ] at h
  simp only [List.nodup_cons] at hn
  have hne : ¬ a = n := fun e => hn.1 (by subst e; exact List.mem_of_getElem? h)
  have hb : (a == n) = false := by simp [hne]
  rw [List.idxOf_cons, hb, idx_at hn.2 h]
  rfl
theorem T.vars_range : ∀ {x : T}, x.good → ∀ n ∈ x.vars, 0 ≤ n ∧ n ≤ 100000
 | .var n, h, m, hm => by
  simp only [T.vars, List.mem_singleton] at hm
  subst hm; exact h
 | .pair a b, h, m, hm => by
  simp only [T.vars, List.mem_append] at hm
  exact hm.elim (T.vars_range h.1 m) (T.vars_range h.2 m)
 | .nil, _, m, hm => by simp [T.vars] at hm
 | .sym _, _, m, hm => by simp [T.vars] at hm
 | .num _, _, m, hm => by simp [T.vars] at hm
theorem nodup_range {N : Nat} : ∀ {l : List Int}, l.Nodup → (∀ n ∈ l, 0 ≤ n ∧ n < N) → l.length ≤ N := by
 induction N with
 | zero =>
  intro l _ h
  cases l with
  | nil => simp
  | cons a l => have := h a (by simp); omega
 | succ N ih =>
  intro l hn h
  have h1 := ih (l := l.erase (N : Int)) (hn.erase _) fun n hm => by
   rw [hn.mem_erase_iff] at hm
   have := h n hm.2
   have h2 : n ≠ (N : Int) := hm.1
   omega
  have h2 : l.length ≤ (l.erase (N : Int)).length + 1 := by
   rw [List.length_erase]; split <;> omega
  omega
end
end Go.Vx
namespace Go.Vx
open Go.Proofs Classical
noncomputable def fits (bs : List B) (x : T) : Option T := fit (x.subst (sub bs))
theorem mapM_snoc {α β : Type} {f : α → Option β} : ∀ {xs : List α} {i : Nat} {x : α} {ys : List β}, xs[i]? = some x → (xs.take i).mapM f = some ys →
  (xs.take (i + 1)).mapM f = (f x).map (ys ++ [·]) ∧ (f x = none → xs.mapM f = none)
 | [], i, x, ys, h, _ => by simp at h
 | a :: xs, 0, x, ys, h, e => by
  simp at h; subst h
  simp at e; subst e
  refine ⟨?_, fun k => by simp [List.mapM_cons, k]⟩
  cases hfa : f a <;> simp [List.mapM_cons, hfa]
 | a :: xs, i + 1, x, ys, h, e => by
  simp only [List.getElem?_cons_succ] at h
  simp only [List.take_succ_cons, List.mapM_cons, bind, Option.bind_eq_some_iff, pure, Option.some.injEq] at e
  obtain ⟨y, h1, zs, h2, rfl⟩ := e
  have ih := mapM_snoc h h2
  refine ⟨?_, fun k => ?_⟩
  ·simp only [List.take_succ_cons, List.mapM_cons, bind, pure] at ih ⊢
   rw [h1, ih.1]
   cases f x <;> simp
  ·simp only [List.mapM_cons, bind]
   rw [ih.2 k]
   cases f a <;> rfl
theorem tms_cnt : ∀ l : List Tm, D.cnts (l.map Tm.d) ≤ 3 * l.length + 3 * D.szs (l.map Tm.d)
 | [] => by simp [D.cnts, D.szs]
 | t :: l => by
  have h1 := tms_cnt l
  have h2 := tm_cnt_sz t
  simp only [List.map_cons, D.cnts, D.szs, List.length_cons]; omega
section
variable {μ : Mem}
end
end Go.Vx
namespace Go.Vx
open Go.Proofs Classical
abbrev Tm.P := Option Addr × Nat
abbrev Bd.P := Option Addr × Nat
section
variable {μ : Mem}
theorem Tm.invR {t : Tm} {cs : List Value} (h : Rep μ t.d cs) : ∃ p : Tm.P, cs = t.cs p ∧ RepV μ t.d (.agg (t.cs p).toArray) := by
 have w_ := Tm.invC h
 obtain ⟨p, rfl⟩ := w_
 exact ⟨p, rfl, Tm.rep h⟩
theorem Bd.invR {b : Bd} {cs : List Value} (h : Rep μ b.d cs) : ∃ p : Bd.P, cs = b.cs p ∧ RepV μ b.d (.agg (b.cs p).toArray) := by
 have w_ := Bd.invS h
 obtain ⟨p, rfl, _⟩ := w_
 exact ⟨p, rfl, _, rfl, h⟩
theorem Tm.ownR {t : Tm} {h : Mem} {cs : List Value} (k : Own t.d h cs) : ∃ p : Tm.P, cs = t.cs p ∧ OwnV (.sl 4 (t.args.map Tm.d)) h (.slice p.1 t.args.length p.2) := by
 have w_ := Tm.own k
 obtain ⟨v, rfl, hv⟩ := w_
 have w_ := OwnV.slice hv
 obtain ⟨b, c, rfl⟩ := w_
 rw [List.length_map] at hv ⊢
 exact ⟨(b, c), rfl, hv⟩
theorem Bd.ownR {t : Bd} {h : Mem} {cs : List Value} (k : Own t.d h cs) : ∃ p : Bd.P, cs = t.cs p ∧ OwnV (.sl 4 (t.to.args.map Tm.d)) h (.slice p.1 t.to.args.length p.2) := by
 have w_ := Bd.own k
 obtain ⟨v, rfl, hv⟩ := w_
 have w_ := OwnV.slice hv
 obtain ⟨b, c, rfl⟩ := w_
 rw [List.length_map] at hv ⊢
 exact ⟨(b, c), rfl, hv⟩
theorem Bd.d_eq (b : Bd) : b.d = .st [.i b.var, b.to.d] := rfl
theorem one_of {α : Type} {l : List α} (h : l.length = 1) : ∃ v, l = [v] := List.length_eq_one_iff.1 h
def FreshS (μ μ' : Mem) (ds : List D) (cs : List Value) : Prop := ∃ g : Mem, OwnS ds g cs ∧ g.Le μ' ∧ ∀ b, g b ≠ none → μ b = none
variable {μ1 μ' : Mem}
theorem FreshS.nil : FreshS μ μ' [] [] := ⟨Mem.nil, ⟨rfl, rfl⟩, (fun _ _ h => nomatch h), fun _ h => absurd rfl h⟩
theorem FreshS.int {n : Int} {ds : List D} {cs : List Value} (k : FreshS μ μ' ds cs) : FreshS μ μ' (.i n :: ds) (.int .i64 n :: cs) := by
 obtain ⟨g, a, b, c⟩ := k
 exact ⟨g, OwnS.int a, b, c⟩
theorem FreshS.bool {n : Bool} {ds : List D} {cs : List Value} (k : FreshS μ μ' ds cs) : FreshS μ μ' (.b n :: ds) (.bool n :: cs) := by
 obtain ⟨g, a, b, c⟩ := k
 exact ⟨g, OwnS.bool a, b, c⟩
theorem FreshS.str {n : ByteArray} {ds : List D} {cs : List Value} (k : FreshS μ μ' ds cs) : FreshS μ μ' (.s n :: ds) (.string n :: cs) := by
 obtain ⟨g, a, b, c⟩ := k
 exact ⟨g, OwnS.str a, b, c⟩
theorem FreshS.cons {d : D} {v : Value} {ds : List D} {cs : List Value} (k1 : Fresh μ μ1 d v) (h1 : μ.Le μ1) (h2 : μ1.Le μ') (k : FreshS μ1 μ' ds cs) : FreshS μ μ' (d :: ds) (vcells v ++ cs) := by
 obtain ⟨g1, a1, b1, c1⟩ := k1
 obtain ⟨g, a, b, c⟩ := k
 refine ⟨g1.join g, OwnS.cons (Parts.join (fresh_apart b1 c)) a1.cells a, join_le (b1.trans h2) b, fun x hx => ?_⟩
 rcases join_ne hx with h | h
 ·exact c1 x h
 ·have h3 := c x h
  cases h0 : μ x with
  | none => rfl
  | some o => rw [h1 x o h0] at h3; cases h3
theorem FreshS.mono {μ0 : Mem} {ds : List D} {cs : List Value} (k : FreshS μ1 μ' ds cs) (h : μ0.Le μ1) : FreshS μ0 μ' ds cs := by
 obtain ⟨g, a, b, c⟩ := k
 refine ⟨g, a, b, fun x hx => ?_⟩
 have h3 := c x hx
 cases h0 : μ0 x with
 | none => rfl
 | some o => rw [h x o h0] at h3; cases h3
theorem FreshS.st {ds : List D} {cs : List Value} (k : FreshS μ μ' ds cs) : Fresh μ μ' (.st ds) (.agg cs.toArray) := by
 obtain ⟨g, a, b, c⟩ := k
 exact ⟨g, ⟨cs, rfl, a⟩, b, c⟩
theorem mark_step {hh M G g G' : Mem} {r : Nat} (hr : hh r = none) (p : Parts hh M G) (q : Parts G g G') :
  ∃ mm : Mem, ∀ o, Parts (hh.set r o) g (mm.set r o) ∧ ∀ h' H', Parts H' h' (mm.set r o) → ∃ M' hh' : Mem, H' = hh'.set r o ∧ hh' r = none ∧ h' r = none ∧ Apart h' M ∧ Parts M' h' M ∧ Parts hh' M' G' := by
 have w_ := p.assoc q.symm
 obtain ⟨mm, p1, p2⟩ := w_
 have hm : mm r = none := by
  cases h : mm r with
  | none => rfl
  | some x => have := p2.left r x h; rw [hr] at this; cases this
 refine ⟨mm, fun o => ⟨(p2.symm.set hr), fun h' H' pH => ?_⟩⟩
 have w_ := back_of hm pH
 obtain ⟨a1, a2, rfl⟩ := w_
 have w_ := (Parts.join a1).assoc p1
 obtain ⟨M', m1, m2⟩ := w_
 refine ⟨M', h'.join mm, rfl, by rw [Mem.join_get, a2]; exact hm, a2, ?_, m1, m2⟩
 intro b hb
 cases h : M b with
 | none => rfl
 | some x => have := a1 b hb; rw [p1.left b x h] at this; cases this
theorem Parts.none_of {h g k : Mem} {r : Nat} (p : Parts h g k) (h1 : g r = none) (h2 : k r = none) : h r = none := by
 rcases p r with ⟨e, _⟩ | ⟨e, _⟩
 ·rw [e]; exact h1
 ·rw [e]; exact h2
end
end Go.Vx
namespace Go.Vx
open Go.Proofs Classical
inductive Gl where
 | mk (kind : Int) (name : ByteArray) (terms : List Tm) (goals : List Gl)
def Gl.kind : Gl → Int | .mk a _ _ _ => a
def Gl.name : Gl → ByteArray | .mk _ a _ _ => a
def Gl.terms : Gl → List Tm | .mk _ _ a _ => a
def Gl.goals : Gl → List Gl | .mk _ _ _ a => a
theorem Gl.ind {q : Gl → Prop} (h : ∀ x : Gl, (∀ y ∈ x.goals, q y) → q x) : ∀ x, q x
 | .mk a0 a1 a2 a3 => h _ fun y hy => have _ := hy; Gl.ind h y
termination_by x => x
decreasing_by all_goals (first | exact Nat.lt_of_lt_of_le (List.sizeOf_lt_of_mem hy) (by simp only [Gl.goals, Gl.mk.sizeOf_spec]; omega) | decreasing_tactic)
mutual
def Gl.d : Gl → D
 | .mk a0 a1 a2 a3 => .st [.i a0, .s a1, .sl 4 (a2.map Tm.d), .sl 4 (Gl.ds a3)]
def Gl.ds : List Gl → List D
 | [] => []
 | t :: r => t.d :: Gl.ds r
end
theorem Gl.ds_map : ∀ l : List Gl, Gl.ds l = l.map Gl.d
 | [] => rfl
 | t :: r => by simp [Gl.ds, Gl.ds_map r]
theorem Gl.d_eq (x : Gl) : x.d = .st [.i x.kind, .s x.name, .sl 4 (x.terms.map Tm.d), .sl 4 (x.goals.map Gl.d)] := by
 cases x
 rw [Gl.d, Gl.ds_map]
 rfl
theorem Gl.d_n (x : Gl) : x.d.n = 4 := by
 rw [Gl.d_eq]
 simp only [D.n, D.ns]
abbrev Gl.P := (Option Addr × Nat) × (Option Addr × Nat)
def Gl.cs (x : Gl) (p : Gl.P) : List Value := [.int .i64 x.kind, .string x.name, .slice p.1.1 x.terms.length p.1.2, .slice p.2.1 x.goals.length p.2.2]
section
variable {μ : Mem}
def Gl.At (μ : Mem) (x : Gl) (p : Gl.P) : Prop := Sl μ 4 p.1.1 x.terms.length (x.terms.map Tm.d) ∧ Sl μ 4 p.2.1 x.goals.length (x.goals.map Gl.d)
theorem Gl.invA {x : Gl} {cs : List Value} (h : Rep μ x.d cs) : ∃ p : Gl.P, cs = x.cs p ∧ Gl.At μ x p := by
 rw [Gl.d_eq] at h
 obtain ⟨a0, t0, rfl, h0, h⟩ := h
 have h0 : a0 = [.int .i64 x.kind] := h0
 subst h0
 obtain ⟨a1, t1, rfl, h1, h⟩ := h
 have h1 : a1 = [.string x.name] := h1
 subst h1
 obtain ⟨a2, t2, rfl, h2, h⟩ := h
 have w_ := one_of (Rep.len _ _ h2)
 obtain ⟨v2, rfl⟩ := w_
 have w_ := Rep.sl h2
 obtain ⟨b2, c2, rfl, s2⟩ := w_
 rw [List.length_map] at s2
 obtain ⟨a3, t3, rfl, h3, h⟩ := h
 have w_ := one_of (Rep.len _ _ h3)
 obtain ⟨v3, rfl⟩ := w_
 have w_ := Rep.sl h3
 obtain ⟨b3, c3, rfl, s3⟩ := w_
 rw [List.length_map] at s3
 obtain rfl : t3 = [] := h
 exact ⟨((b2, c2), (b3, c3)), by simp [Gl.cs], ⟨s2, s3⟩⟩
theorem Gl.rep {x : Gl} {cs : List Value} (h : Rep μ x.d cs) : RepV μ x.d (.agg cs.toArray) := by
 rw [Gl.d_eq] at h ⊢; exact ⟨cs, rfl, h⟩
theorem Gl.invR {x : Gl} {cs : List Value} (h : Rep μ x.d cs) : ∃ p : Gl.P, cs = x.cs p ∧ RepV μ x.d (.agg (x.cs p).toArray) := by
 have w_ := Gl.invA h
 obtain ⟨p, e, _⟩ := w_
 subst e
 exact ⟨p, rfl, Gl.rep h⟩
theorem Gl.inv {x : Gl} {v : Value} (h : RepV μ x.d v) : ∃ p : Gl.P, v = .agg #[.int .i64 x.kind, .string x.name, .slice p.1.1 x.terms.length p.1.2, .slice p.2.1 x.goals.length p.2.2] ∧ Gl.At μ x p := by
 have h2 : ∃ cs, v = .agg (List.toArray cs) ∧ Rep μ x.d cs := by rw [Gl.d_eq] at h ⊢; exact h
 obtain ⟨cs, rfl, h3⟩ := h2
 have w_ := Gl.invA h3
 obtain ⟨p, rfl, hA⟩ := w_
 exact ⟨p, rfl, hA⟩
theorem Gl.invV {x : Gl} {v : Value} (h : RepV μ x.d v) : ∃ p : Gl.P, v = .agg #[.int .i64 x.kind, .string x.name, .slice p.1.1 x.terms.length p.1.2, .slice p.2.1 x.goals.length p.2.2] := by
 have w_ := Gl.inv h
 obtain ⟨p, h, _⟩ := w_
 exact ⟨p, h⟩
theorem Gl.elemA {l : List Gl} {base : Option Addr} {n : Nat} (h : Sl μ 4 base n (l.map Gl.d)) {i : Nat} {x : Gl} (hx : l[i]? = some x) : ∃ ad, ∃ p : Gl.P, ElemAt μ base n 4 i ad (x.cs p) ∧ RepV μ x.d (.agg (x.cs p).toArray) ∧ Gl.At μ x p := by
 have w_ := h.get i x.d (by simp [hx])
 obtain ⟨ad, cs, h1, h2⟩ := w_
 have w_ := Gl.invA h2
 obtain ⟨p, rfl, hA⟩ := w_
 exact ⟨ad, p, h1, Gl.rep h2, hA⟩
theorem Gl.elem {l : List Gl} {base : Option Addr} {n : Nat} (h : Sl μ 4 base n (l.map Gl.d)) {i : Nat} {x : Gl} (hx : l[i]? = some x) : ∃ ad, ∃ p : Gl.P, ElemAt μ base n 4 i ad (x.cs p) ∧ RepV μ x.d (.agg (x.cs p).toArray) := by
 have w_ := Gl.elemA h hx
 obtain ⟨ad, p, h1, h2, _⟩ := w_
 exact ⟨ad, p, h1, h2⟩
theorem Gl.ownR {x : Gl} {h : Mem} {cs : List Value} (k : Own x.d h cs) : ∃ p : Gl.P, cs = x.cs p ∧ ∃ g1 g2, Parts h g1 g2 ∧ OwnV (.sl 4 (x.terms.map Tm.d)) g1 (.slice p.1.1 x.terms.length p.1.2) ∧ OwnV (.sl 4 (x.goals.map Gl.d)) g2 (.slice p.2.1 x.goals.length p.2.2) := by
 rw [Gl.d_eq] at k
 obtain ⟨a0, t0, h0, r0, rfl, q0, o0, k⟩ := k
 obtain ⟨rfl, rfl⟩ := o0
 have w_ := q0.eq (Parts.nil_left _)
 obtain rfl := w_
 obtain ⟨a1, t1, h1, r1, rfl, q1, o1, k⟩ := k
 obtain ⟨rfl, rfl⟩ := o1
 have w_ := q1.eq (Parts.nil_left _)
 obtain rfl := w_
 obtain ⟨a2, t2, h2, r2, rfl, q2, o2, k⟩ := k
 have w_ := one_of (Own.len o2)
 obtain ⟨v2, rfl⟩ := w_
 have w_ := Own.sl o2
 obtain ⟨b2, c2, rfl⟩ := w_
 rw [List.length_map] at o2
 obtain ⟨a3, t3, h3, r3, rfl, q3, o3, k⟩ := k
 have w_ := one_of (Own.len o3)
 obtain ⟨v3, rfl⟩ := w_
 have w_ := Own.sl o3
 obtain ⟨b3, c3, rfl⟩ := w_
 rw [List.length_map] at o3
 obtain ⟨rfl, rfl⟩ := k
 have w_ := q3.eq (Parts.nil_right _)
 obtain rfl := w_
 exact ⟨((b2, c2), (b3, c3)), by simp [Gl.cs], ⟨_, _, q2, o2, o3⟩⟩
theorem Gl.sz_eq (x : Gl) : x.d.sz = x.name.size + (x.terms.length + D.szs (x.terms.map Tm.d)) + (x.goals.length + D.szs (x.goals.map Gl.d)) := by
 rw [Gl.d_eq]
 simp [D.sz, D.szs]
 omega
theorem szGoalS_of {l : List Gl} (he : ∀ t ∈ l, ∀ {v : Value} {left : Int}, RepV μ t.d v → 0 ≤ left → left ≤ 1048576 → t.d.wd → Gives Tryz.prog 9 [v, .int .i64 left] μ (.int .i64 (szR left t.d.sz)))
  {base : Option Addr} {cap : Nat} {left : Int} (hsl : Sl μ 4 base l.length (l.map Gl.d)) (hl : 0 ≤ left) (hl2 : left ≤ 1048576) (hw : D.wds (l.map Gl.d)) :
  Gives Tryz.prog 47 [.slice base l.length cap, .int .i64 left] μ (.int .i64 (szR left (l.length + D.szs (l.map Gl.d)))) := by
 have hn := maxLen_le hsl.max
 refine Spec.mk Tryz.func47 (by kernel_rfl) ?_
 refine num64 (by omega) (by omega) (ifd (fun h => rGv ?_ rfl) (fun h => ?_))
 ·rw [szR_neg (by omega)]
 refine lIn (fun i : Nat => i ≤ l.length ∧ (D.szs ((l.map Gl.d).take i) : Int) ≤ left - l.length) (fun i => ⟨[(0, .val (.slice base l.length cap)), (1, .val (.int .i64 (left - l.length - D.szs ((l.map Gl.d).take i)))), (5, .val (.int .i64 i))], [], 0, μ, Mem.nil⟩) (fun i => l.length - i)
  0 ⟨by omega, by simp [D.szs]; omega⟩ (fun i => ⟨rfl, rfl⟩) ⟨⟨rfl, by show some (SV.val (.int .i64 _)) = some (SV.val (.int .i64 _)); congr 3; simp [D.szs], rfl, trivial⟩, trivial, rfl, rfl⟩ ?_
 rintro i ⟨hi, hz⟩
 refine ifd (fun h => ?_) (fun h => ?_)
 ·obtain ⟨t, ht⟩ := aSo (l := l) (i := i) (by omega)
  have hx := at_map (f := Gl.d) ht
  have hs := D.szs_take hx
  have hs' := D.szs_le (l.map Gl.d) (i + 1)
  obtain ⟨ad, p, hel, hr⟩ := Gl.elem hsl ht
  refine eIn hel (cGv (he t (mAt ht) hr (by omega) (by omega) (D.wds_mem hw _ (mAt hx))) ?_)
  refine ifd (fun h => rGv ?_ rfl) (fun h => ?_)
  ·have := szR_lt h
   rw [szR_neg (by omega)]
  ·have := szR_ge h
   refine num64 (by omega) (by omega) ⟨i + 1, ⟨by omega, by omega⟩, by omega, ⟨⟨rfl, ?_, rfl, trivial⟩, trivial, rfl, rfl⟩⟩
   rw [szR_pos this, hs]
   show some (SV.val (.int .i64 _)) = some (SV.val (.int .i64 _))
   congr 3; omega
 ·obtain rfl : i = l.length := by omega
  rw [List.take_of_length_le (by simp)] at hz ⊢
  refine rGv ?_ rfl
  rw [szR_pos (by omega)]; congr 1; omega
theorem szGoal_spec : ∀ (x : Gl) {v : Value} {left : Int}, RepV μ x.d v → 0 ≤ left → left ≤ 1048576 → x.d.wd → Gives Tryz.prog 9 [v, .int .i64 left] μ (.int .i64 (szR left x.d.sz)) :=
 Gl.ind fun x ih v left hv hl hl2 hw => by
  have w_ := Gl.inv hv
  obtain ⟨p, rfl, hA⟩ := w_
  have hsz := Gl.sz_eq x
  rw [Gl.d_eq] at hw
  obtain ⟨A0, A1⟩ := hA
  have m1 := maxLen_le hw.2.1
  refine Spec.mk Tryz.func9 (by kernel_rfl) ?_
  intro r
  refine num64 (by omega) (by omega) (ifd (fun h => rGv (by rw [szR_neg (by omega)]) rfl) (fun h => ?_))
  refine cGv (szTermS_spec A0 (by omega) (by omega) hw.2.2.1) ?_
  refine ifd (fun h => rGv (by have := szR_lt h; rw [szR_neg (by omega)]) rfl) (fun h => ?_)
  have q2 := szR_ge h
  rw [szR_pos q2] at h ⊢
  refine cGv (szGoalS_of (l := x.goals) (fun t ht _ _ => ih t ht) A1 (by omega) (by omega) hw.2.2.2.1) ?_
  refine ifd (fun h => rGv (by have := szR_lt h; rw [szR_neg (by omega)]) rfl) (fun h => ?_)
  have q3 := szR_ge h
  rw [szR_pos q3] at h ⊢
  refine rGv ?_ rfl
  rw [szR_pos (by omega)]
  first | rfl | (congr 1; omega)
theorem toGoalS_of {l : List Gl} (he : ∀ t ∈ l, ∀ {μ : Mem} {v : Value}, RepV μ t.d v → t.d.sz ≤ 1048576 → Spec Tryz.prog 11 [v] μ fun v μ' => Fresh μ μ' t.d v)
  {base : Option Addr} {cap : Nat} (hsl : Sl μ 4 base l.length (l.map Gl.d)) (hb : l.length + D.szs (l.map Gl.d) ≤ 1048576) :
  Spec Tryz.prog 51 [.slice base l.length cap] μ fun v μ' => Fresh μ μ' (.sl 4 (l.map Gl.d)) v := by
 refine Spec.mk Tryz.func51 (by kernel_rfl) ?_
 refine make_intro l.length rfl rfl (by simp only; omega) (Nat.le_trans (m := 1048576) (by omega) (by decide)) ?_
 intro r
 refine lIn (fun p : Nat × List Value × Mem => μ.Le p.2.2 ∧ ∃ g, Filled 4 (.agg #[.int .i64 0, .string ⟨#[]⟩, .slice none 0 0, .slice none 0 0]) μ p.2.2 (l.map Gl.d) p.1 p.2.1 g)
  (fun (i, xs, μ') => ⟨[(0, .val (.slice base l.length cap)), (3, .row 0 (some r) l.length l.length), (4, .val (.int .i64 i))], [(0, some (.row (some r) l.length 30 4 xs))], 1, μ', Mem.nil⟩) (fun p => l.length - p.1)
  (0, List.replicate l.length (.agg #[.int .i64 0, .string ⟨#[]⟩, .slice none 0 0, .slice none 0 0]), μ) ⟨Mem.Le.refl μ, _, Filled.start (by simp)⟩ (fun (_, _, _) => ⟨rfl, rfl⟩) ⟨⟨rfl, rfl, rfl, trivial⟩, ⟨rfl, trivial⟩, rfl, rfl⟩ ?_
 rintro ⟨i, xs, μ'⟩ ⟨hle, g, hf⟩
 dsimp only at hle hf
 have hi := hf.le
 have hlen := hf.len
 rw [List.length_map] at hi hlen
 refine ifd (fun h => ?_) (fun h => ?_)
 ·obtain ⟨t, ht⟩ := aSo (l := l) (i := i) (by omega)
  have hx := at_map (f := Gl.d) ht
  have hs := D.szs_mem hx
  obtain ⟨ad, p, hel, hr⟩ := Gl.elem (hsl.mono hle) ht
  refine eIn hel (cPl (he t (mAt ht) hr (by omega)) fun v μ'' hle2 hfr => ?_)
  obtain ⟨g', hf'⟩ := hf.step hx (Gl.d_n t) hfr hle2
  obtain ⟨p2, rfl⟩ := Gl.invV hfr.rep
  refine rel_intro i rfl (by omega) ?_
  refine get_intro _ (hf.rest i (by omega) (by simpa using h)) ?_
  refine num64 (by omega) (by omega) ⟨(i + 1, _, μ''), ⟨hle.trans hle2, g', hf'⟩, by dsimp only; omega, ⟨⟨rfl, rfl, rfl, trivial⟩, ⟨rfl, trivial⟩, rfl, rfl⟩⟩
 ·obtain rfl : i = l.length := by omega
  refine rFz [0] fun μ2 hle2 hno hrow => .inl ?_
  have := Fresh.ofRow (hf.all (by simp)) hf.sub hf.new hle hle2 hno hrow (Nat.le_trans (m := 1048576) (by omega) (by decide))
  rw [hlen] at this
  exact this
set_option maxRecDepth 4000 in
theorem toGoal_spec : ∀ (x : Gl) {μ : Mem} {v : Value}, RepV μ x.d v → x.d.sz ≤ 1048576 → Spec Tryz.prog 11 [v] μ fun v μ' => Fresh μ μ' x.d v :=
 Gl.ind fun x ih μ v hv hb => by
  have w_ := Gl.inv hv
  obtain ⟨p, rfl, hA⟩ := w_
  have hsz := Gl.sz_eq x
  obtain ⟨A0, A1⟩ := hA
  refine Spec.mk Tryz.func11 (by kernel_rfl) ?_
  intro r1 r2 r3
  refine cPl (toTermS_spec A0 (by omega)) fun u0 μ0 hle0 hf0 => ?_
  replace A1 := A1.mono hle0
  have w_ := Rep.sl hf0.rep
  obtain ⟨bb0, cc0, rfl, _⟩ := w_
  refine cPl (toGoalS_of (l := x.goals) (fun t ht _ _ => ih t ht) A1 (by omega)) fun u1 μ1 hle1 hf1 => ?_
  have w_ := Rep.sl hf1.rep
  obtain ⟨bb1, cc1, rfl, _⟩ := w_
  rw [Gl.d_eq]
  exact rPl (FreshS.st (FreshS.int (FreshS.str (FreshS.cons hf0 hle0 (hle1) (FreshS.cons hf1 hle1 (Mem.Le.refl _) (FreshS.nil))))))
theorem eqGoalS_of {l : List Gl} (he : ∀ t ∈ l, ∀ {v v' : Value}, RepV μ t.d v → RepV μ t.d v' → Gives Tryz.prog 13 [v, v'] μ (.bool true))
  {base base' : Option Addr} {cap cap' : Nat} (hl : Sl μ 4 base l.length (l.map Gl.d)) (hl' : Sl μ 4 base' l.length (l.map Gl.d)) :
  Gives Tryz.prog 55 [.slice base l.length cap, .slice base' l.length cap'] μ (.bool true) := by
 have hn := maxLen_le hl.max
 refine Spec.mk Tryz.func55 (by kernel_rfl) ?_
 refine ifnd (fun h => absurd rfl h) (fun _ => ?_)
 refine lIn (fun i : Nat => i ≤ l.length) (fun i => ⟨[(0, .val (.slice base l.length cap)), (1, .val (.slice base' l.length cap')), (5, .val (.int .i64 i))], [], 0, μ, Mem.nil⟩) (fun i => l.length - i)
  0 (by omega) (fun i => ⟨rfl, rfl⟩) ⟨⟨rfl, rfl, rfl, trivial⟩, trivial, rfl, rfl⟩ ?_
 intro i hi
 refine ifd (fun h => ?_) (fun h => ?_)
 ·obtain ⟨t, ht⟩ := aSo (l := l) (i := i) (by omega)
  obtain ⟨ad, p, hel, hr⟩ := Gl.elem hl ht
  obtain ⟨ad', p', hel', hr'⟩ := Gl.elem hl' ht
  refine eIn hel (eIn hel' (cGv (he t (mAt ht) hr hr') ?_))
  refine iIn (fun h => nomatch h) (fun _ => ?_)
  exact num64 (by omega) (by omega) ⟨i + 1, by omega, by omega, ⟨⟨rfl, rfl, rfl, trivial⟩, trivial, rfl, rfl⟩⟩
 ·exact rGv rfl rfl
theorem eqGoal_spec : ∀ (x : Gl) {v v' : Value}, RepV μ x.d v → RepV μ x.d v' → Gives Tryz.prog 13 [v, v'] μ (.bool true) :=
 Gl.ind fun x ih v v' hv hv' => by
  have w_ := Gl.inv hv
  obtain ⟨p, rfl, hA⟩ := w_
  have w_ := Gl.inv hv'
  obtain ⟨p', rfl, hB⟩ := w_
  obtain ⟨A0, A1⟩ := hA
  obtain ⟨B0, B1⟩ := hB
  refine Spec.mk Tryz.func13 (by kernel_rfl) ?_
  intro r1 r2
  refine ifnd (fun h => absurd rfl h) (fun _ => ?_)
  refine ifnd (fun h => absurd rfl h) (fun _ => ?_)
  refine cGv (eqTermS_spec A0 B0) ?_
  refine iIn (fun h => nomatch h) (fun _ => ?_)
  refine cGv (eqGoalS_of (l := x.goals) (fun t ht _ _ => ih t ht) A1 B1) ?_
  refine iIn (fun h => nomatch h) (fun _ => ?_)
  exact rGv rfl rfl
theorem Gl.mk_eq (x : Gl) (k : Int) : x.d.mk k = (.st [.i (k), .s (mtext (k + 1)), .sl 4 (D.mks (x.terms.map Tm.d) (k + 1 + 1)).1, .sl 4 (D.mks (x.goals.map Gl.d) ((D.mks (x.terms.map Tm.d) (k + 1 + 1)).2)).1], (D.mks (x.goals.map Gl.d) ((D.mks (x.terms.map Tm.d) (k + 1 + 1)).2)).2) := by
 rw [Gl.d_eq]
 simp only [D.mk, D.mks]
theorem Gl.cnt_eq (x : Gl) : x.d.cnt = 2 + D.cnts (x.terms.map Tm.d) + D.cnts (x.goals.map Gl.d) := by
 rw [Gl.d_eq]
 simp only [D.cnt, D.cnts]
 omega
set_option maxHeartbeats 1000000 in
theorem markGoalS_of {l : List Gl} (he : ∀ t ∈ l, ∀ {h : Mem} {v : Value} {k : Int}, OwnV (.sl 4 (t.goals.map Gl.d)) h v → 0 ≤ k → k + D.cnts (t.goals.map Gl.d) ≤ 9223372036854775807 →
   SpecH Tryz.prog 56 [v, .int .i64 k] μ h fun r μ' h' => r = .int .i64 (D.mks (t.goals.map Gl.d) k).2 ∧ μ' = μ ∧ OwnV (.sl 4 (D.mks (t.goals.map Gl.d) k).1) h' v)
  {h : Mem} {v : Value} {k : Int} (ho : OwnV (.sl 4 (l.map Gl.d)) h v) (hk : 0 ≤ k) (hk2 : k + D.cnts (l.map Gl.d) ≤ 9223372036854775807) :
  SpecH Tryz.prog 56 [v, .int .i64 k] μ h fun r μ' h' => r = .int .i64 (D.mks (l.map Gl.d) k).2 ∧ μ' = μ ∧ OwnV (.sl 4 (D.mks (l.map Gl.d) k).1) h' v := by
 obtain ⟨base, cap, e, hm, hn, ho⟩ := ho
 simp only [List.cons.injEq, and_true] at e
 subst e
 have hm' : (l.map Gl.d).length ≤ 9223372036854775807 := Nat.le_trans hm.max (by decide)
 refine SpecH.mk [] Tryz.func56 (by kernel_rfl) ?_
 rcases ho with ⟨hnil, rfl⟩ | ⟨r, flat, rest, ty, h2, rfl, hr, rfl, ho⟩
 ·rw [hnil]
  refine lIn (fun i : Nat => i = 0) (fun i => ⟨[(0, .val (.slice base 0 cap)), (1, .val (.int .i64 k)), (5, .val (.int .i64 i))], [], 0, μ, Mem.nil⟩) (fun i => 0 - i)
   0 rfl (fun i => ⟨rfl, rfl⟩) ⟨⟨rfl, rfl, rfl, trivial⟩, trivial, rfl, rfl⟩ ?_
  rintro i rfl
  refine ifd (fun h => by omega) (fun h => rPl ⟨rfl, rfl, base, cap, rfl, ⟨Nat.zero_le _, Nat.zero_le _⟩, by simp [D.mks], .inl ⟨rfl, rfl⟩⟩)
 ·generalize hxs : l.map Gl.d = xs at *
  refine lIn (fun p : Nat × List Value × List Value × Mem => Marking xs k rest r p.1 p.2.1 p.2.2.1 p.2.2.2)
   (fun (i, pre, tail, hh) => ⟨[(0, .val (.slice (some ⟨r, 0, none⟩) xs.length cap)), (1, .val (.int .i64 (D.mks (xs.take i) k).2)), (5, .val (.int .i64 i))], [], 0, μ, hh.set r (.cells (List.toArray (pre ++ tail)) ty (0, 0))⟩) (fun p => xs.length - p.1)
   (0, [], flat ++ rest, h2) (Marking.start hr ho) (fun (_, _, _, _) => ⟨rfl, rfl⟩) ⟨⟨rfl, rfl, rfl, trivial⟩, trivial, rfl, rfl⟩ ?_
  rintro ⟨i, pre, tail, hh⟩ M
  dsimp only at M
  have hi := M.le
  have hge := D.mks_cnt (xs.take i) k
  refine ifd (fun h => ?_) (fun h => ?_)
  ·obtain ⟨x, ht⟩ := aSo (l := l) (i := i) (by rw [← hxs] at h; simp at h; omega)
   have hx : xs[i]? = some x.d := by rw [← hxs]; simp [ht]
   have w_ := M.next hx
   obtain ⟨c, g, m, c2, rfl, hown, hp, hmr, back⟩ := w_
   have w_ := Gl.ownR hown
   obtain ⟨p, rfl, ch⟩ := w_
   have hlen := M.len hn
   have hcnt := Marking.cnt (k := k) hx
   rw [Gl.cnt_eq] at hcnt
   generalize hk0 : (D.mks (xs.take i) k).2 = k0 at *
   have hs0 := D.mks_cnt (x.terms.map Tm.d) (k0 + 1 + 1)
   have hs1 := D.mks_cnt (x.goals.map Gl.d) ((D.mks (x.terms.map Tm.d) (k0 + 1 + 1)).2)
   obtain ⟨g1, g2, q0, ch0, ch1⟩ := ch
   have q1 := Parts.nil_right g2
   have P0 := hp.symm
   have R0 := M.out
   refine ptr_intro ⟨r, 0, none⟩ rfl (by omega) (by omega) ?_
   refine sto_at (j := 0) (by simp [Addr.add_lit', hlen]) (by simp [Gl.cs]) ?_
   refine num64 (by omega) (by omega) ?_
   refine cGv (markText_spec _ (by omega)) ?_
   refine ptr_intro ⟨r, 0, none⟩ rfl (by omega) (by omega) ?_
   refine sto_at (j := 1) (by simp [Addr.add_lit', hlen]) (by simp [Gl.cs]) ?_
   refine num64 (by omega) (by omega) ?_
   refine ptr_intro ⟨r, 0, none⟩ rfl (by omega) (by omega) ?_
   refine own_at (j := 2) (by simp [Addr.add_lit', hlen]) rfl ?_
   have w_ := mark_step R0 P0 q0
   obtain ⟨mm0, st0⟩ := w_
   refine cOw (SpecH.frame (st0 _).1 (markTermS_spec ch0 (by omega) (by omega))) fun v0 μ0 H0 hle0 hap0 hR0 => ?_
   obtain ⟨y0, ⟨rfl, eμ0, oo0⟩, pp0⟩ := hR0
   subst eμ0
   have w_ := (st0 _).2 _ _ pp0
   obtain ⟨M1, hh1, rfl, R1, n0, ap0, mj0, P1⟩ := w_
   refine ptr_intro ⟨r, 0, none⟩ rfl (by omega) (by omega) ?_
   refine own_at (j := 3) (by simp [Addr.add_lit', hlen]) rfl ?_
   have w_ := mark_step R1 P1 q1
   obtain ⟨mm1, st1⟩ := w_
   refine cOw (SpecH.frame (st1 _).1 (he x (mAt ht) ch1 (by omega) (by omega))) fun v1 μ1 H1 hle1 hap1 hR1 => ?_
   obtain ⟨y1, ⟨rfl, eμ1, oo1⟩, pp1⟩ := hR1
   subst eμ1
   have w_ := (st1 _).2 _ _ pp1
   obtain ⟨M2, hh2, rfl, R2, n1, ap1, mj1, P2⟩ := w_
   have e1 := P2.eq (Parts.nil_right _)
   subst e1
   have w_ := mj1.assoc mj0
   obtain ⟨gg, u1, u2⟩ := w_
   have e2 := u2.is_join
   subst e2
   have PP := u1.symm
   have hmk := D.mks_take hx k
   have hmk2 := Gl.mk_eq x k0
   rw [hk0] at hmk
   refine num64 (by omega) (by omega) ⟨(i + 1, pre ++ [.int .i64 (k0), .string (mtext (k0 + 1)), .slice p.1.1 x.terms.length p.1.2, .slice p.2.1 x.goals.length p.2.2], c2 ++ rest, Mem.join gg m), back _ _ u2.apart (u1.none_of n1 n0) ?_, by dsimp only; omega, ⟨⟨rfl, ?_, rfl, trivial⟩, trivial, rfl, ?_⟩⟩
   ·rw [hmk2]
    exact OwnS.int (OwnS.str (OwnS.cons (c1 := [_]) PP oo0 (OwnS.last oo1)))
   ·rw [hmk, hmk2]
    rfl
   ·simp [Gl.cs]
  ·have hi' : i = xs.length := by omega
   subst hi'
   obtain ⟨rfl, o1⟩ := M.last
   refine rPl ⟨by rw [List.take_length], rfl, some ⟨r, 0, none⟩, cap, by rw [D.mks_length], by rw [D.mks_length]; exact hm, D.mks_size k hn, .inr ⟨r, pre, tail, ty, hh, rfl, M.out, rfl, o1⟩⟩
theorem markGoalS_spec {l : List Gl} {h : Mem} {v : Value} {k : Int} (ho : OwnV (.sl 4 (l.map Gl.d)) h v) (hk : 0 ≤ k) (hk2 : k + D.cnts (l.map Gl.d) ≤ 9223372036854775807) :
  SpecH Tryz.prog 56 [v, .int .i64 k] μ h fun r μ' h' => r = .int .i64 (D.mks (l.map Gl.d) k).2 ∧ μ' = μ ∧ OwnV (.sl 4 (D.mks (l.map Gl.d) k).1) h' v :=
 Gl.ind (q := fun t => ∀ {h : Mem} {v : Value} {k : Int}, OwnV (.sl 4 (t.goals.map Gl.d)) h v → 0 ≤ k → k + D.cnts (t.goals.map Gl.d) ≤ 9223372036854775807 →
   SpecH Tryz.prog 56 [v, .int .i64 k] μ h fun r μ' h' => r = .int .i64 (D.mks (t.goals.map Gl.d) k).2 ∧ μ' = μ ∧ OwnV (.sl 4 (D.mks (t.goals.map Gl.d) k).1) h' v)
  (fun _ ih _ _ _ => markGoalS_of fun t ht _ _ _ => ih t ht) (.mk 0 ⟨#[]⟩ [] l) ho hk hk2
theorem Gl.mt_eq (x : Gl) (k : Int) : x.d.mt k = (.st [.i x.kind, .s x.name, .sl 4 (D.mks (x.terms.map Tm.d) (k)).1, .sl 4 (D.mks (x.goals.map Gl.d) ((D.mks (x.terms.map Tm.d) (k)).2)).1], (D.mks (x.goals.map Gl.d) ((D.mks (x.terms.map Tm.d) (k)).2)).2) := by
 rw [Gl.d_eq]
 simp only [D.mt, D.mts]
theorem read_Goal : Reads Tryz.prog 25 fun d => ∃ x : Gl, d = x.d ∧ x.d.wd := fun n => by
 induction n using Nat.strongRecOn with
 | ind n ih =>
  match n, ih with
  | 0, _ => exact ReadsTo.zero _
  | n + 1, ih =>
   have hs : ReadsTo Tryz.prog n 23 fun d => ∃ xs, d = .sl 4 xs ∧ ∀ x ∈ xs, ∃ t : Gl, x = t.d ∧ t.d.wd := by
    match n, ih with
    | 0, _ => exact ReadsTo.zero _
    | n + 1, ih => exact reads_slice ti23.kind (cellsOf_tt ti25) (ih n (by omega)) (fun d h => by obtain ⟨t, rfl, _⟩ := h; exact Gl.d_n t)
   exact (reads_struct ti25 rfl (FieldsTo.cons ti3 (reads_int und_int n) (FieldsTo.cons ti9 (reads_str und_string n) (FieldsTo.cons ti22 (read_TermS n) (FieldsTo.cons ti23 (hs) FieldsTo.nil))))).weaken fun d h => by
    obtain ⟨ds, rfl, h⟩ := h
    obtain ⟨_, _, rfl, ⟨x0, rfl, w0⟩, q0⟩ := h.cons
    obtain ⟨_, _, rfl, ⟨x1, rfl, w1⟩, q1⟩ := q0.cons
    obtain ⟨_, _, rfl, ⟨x2, rfl, w2⟩, q2⟩ := q1.cons
    obtain ⟨_, _, rfl, ⟨xs, rfl, hxs⟩, q3⟩ := q2.cons
    obtain ⟨x3, rfl⟩ := lift_list (f := Gl.d) fun x h => by obtain ⟨t, h, _⟩ := hxs x h; exact ⟨t, h⟩
    have w3 : D.wds (x3.map Gl.d) := D.wds_of fun x hm => by obtain ⟨t, rfl, h⟩ := hxs x hm; exact h
    obtain rfl := q3.nil
    refine ⟨.mk x0 x1 x2 x3, (Gl.d_eq (.mk x0 x1 x2 x3)).symm, ?_⟩
    rw [Gl.d_eq]
    exact ⟨w0, w1, w2, w3, trivial⟩
end
end Go.Vx
namespace Go.Vx
open Go.Proofs Classical
structure Rl where
 name : ByteArray
 arity : Int
 locals : Int
 body : Gl
def Rl.d (x : Rl) : D := .st [.s x.name, .i x.arity, .i x.locals, x.body.d]
theorem Rl.d_eq (x : Rl) : x.d = .st [.s x.name, .i x.arity, .i x.locals, x.body.d] := rfl
theorem Rl.d_n (x : Rl) : x.d.n = 7 := by
 rw [Rl.d_eq]
 simp only [D.n, D.ns, Gl.d_n]
abbrev Rl.P := Gl.P
def Rl.cs (x : Rl) (p : Rl.P) : List Value := [.string x.name, .int .i64 x.arity, .int .i64 x.locals, .int .i64 x.body.kind, .string x.body.name, .slice p.1.1 x.body.terms.length p.1.2, .slice p.2.1 x.body.goals.length p.2.2]
section
variable {μ : Mem}
def Rl.At (μ : Mem) (x : Rl) (p : Rl.P) : Prop := RepV μ x.body.d (.agg (x.body.cs p).toArray)
theorem Rl.invA {x : Rl} {cs : List Value} (h : Rep μ x.d cs) : ∃ p : Rl.P, cs = x.cs p ∧ Rl.At μ x p := by
 rw [Rl.d_eq] at h
 obtain ⟨a0, t0, rfl, h0, h⟩ := h
 have h0 : a0 = [.string x.name] := h0
 subst h0
 obtain ⟨a1, t1, rfl, h1, h⟩ := h
 have h1 : a1 = [.int .i64 x.arity] := h1
 subst h1
 obtain ⟨a2, t2, rfl, h2, h⟩ := h
 have h2 : a2 = [.int .i64 x.locals] := h2
 subst h2
 obtain ⟨a3, t3, rfl, h3, h⟩ := h
 have w_ := Gl.invR h3
 obtain ⟨p3, rfl, r3⟩ := w_
 obtain rfl : t3 = [] := h
 exact ⟨p3, by simp [Rl.cs, Gl.cs], r3⟩
theorem Rl.rep {x : Rl} {cs : List Value} (h : Rep μ x.d cs) : RepV μ x.d (.agg cs.toArray) := by
 rw [Rl.d_eq] at h ⊢; exact ⟨cs, rfl, h⟩
theorem Rl.invR {x : Rl} {cs : List Value} (h : Rep μ x.d cs) : ∃ p : Rl.P, cs = x.cs p ∧ RepV μ x.d (.agg (x.cs p).toArray) := by
 have w_ := Rl.invA h
 obtain ⟨p, e, _⟩ := w_
 subst e
 exact ⟨p, rfl, Rl.rep h⟩
theorem Rl.inv {x : Rl} {v : Value} (h : RepV μ x.d v) : ∃ p : Rl.P, v = .agg #[.string x.name, .int .i64 x.arity, .int .i64 x.locals, .int .i64 x.body.kind, .string x.body.name, .slice p.1.1 x.body.terms.length p.1.2, .slice p.2.1 x.body.goals.length p.2.2] ∧ Rl.At μ x p := by
 have h2 : ∃ cs, v = .agg (List.toArray cs) ∧ Rep μ x.d cs := by rw [Rl.d_eq] at h ⊢; exact h
 obtain ⟨cs, rfl, h3⟩ := h2
 have w_ := Rl.invA h3
 obtain ⟨p, rfl, hA⟩ := w_
 exact ⟨p, rfl, hA⟩
theorem Rl.invV {x : Rl} {v : Value} (h : RepV μ x.d v) : ∃ p : Rl.P, v = .agg #[.string x.name, .int .i64 x.arity, .int .i64 x.locals, .int .i64 x.body.kind, .string x.body.name, .slice p.1.1 x.body.terms.length p.1.2, .slice p.2.1 x.body.goals.length p.2.2] := by
 have w_ := Rl.inv h
 obtain ⟨p, h, _⟩ := w_
 exact ⟨p, h⟩
theorem Rl.elemA {l : List Rl} {base : Option Addr} {n : Nat} (h : Sl μ 7 base n (l.map Rl.d)) {i : Nat} {x : Rl} (hx : l[i]? = some x) : ∃ ad, ∃ p : Rl.P, ElemAt μ base n 7 i ad (x.cs p) ∧ RepV μ x.d (.agg (x.cs p).toArray) ∧ Rl.At μ x p := by
 have w_ := h.get i x.d (by simp [hx])
 obtain ⟨ad, cs, h1, h2⟩ := w_
 have w_ := Rl.invA h2
 obtain ⟨p, rfl, hA⟩ := w_
 exact ⟨ad, p, h1, Rl.rep h2, hA⟩
theorem Rl.elem {l : List Rl} {base : Option Addr} {n : Nat} (h : Sl μ 7 base n (l.map Rl.d)) {i : Nat} {x : Rl} (hx : l[i]? = some x) : ∃ ad, ∃ p : Rl.P, ElemAt μ base n 7 i ad (x.cs p) ∧ RepV μ x.d (.agg (x.cs p).toArray) := by
 have w_ := Rl.elemA h hx
 obtain ⟨ad, p, h1, h2, _⟩ := w_
 exact ⟨ad, p, h1, h2⟩
theorem Rl.ownR {x : Rl} {h : Mem} {cs : List Value} (k : Own x.d h cs) : ∃ p : Rl.P, cs = x.cs p ∧ ∃ g1 g2, Parts h g1 g2 ∧ OwnV (.sl 4 (x.body.terms.map Tm.d)) g1 (.slice p.1.1 x.body.terms.length p.1.2) ∧ OwnV (.sl 4 (x.body.goals.map Gl.d)) g2 (.slice p.2.1 x.body.goals.length p.2.2) := by
 rw [Rl.d_eq] at k
 obtain ⟨a0, t0, h0, r0, rfl, q0, o0, k⟩ := k
 obtain ⟨rfl, rfl⟩ := o0
 have w_ := q0.eq (Parts.nil_left _)
 obtain rfl := w_
 obtain ⟨a1, t1, h1, r1, rfl, q1, o1, k⟩ := k
 obtain ⟨rfl, rfl⟩ := o1
 have w_ := q1.eq (Parts.nil_left _)
 obtain rfl := w_
 obtain ⟨a2, t2, h2, r2, rfl, q2, o2, k⟩ := k
 obtain ⟨rfl, rfl⟩ := o2
 have w_ := q2.eq (Parts.nil_left _)
 obtain rfl := w_
 obtain ⟨a3, t3, h3, r3, rfl, q3, o3, k⟩ := k
 have w_ := Gl.ownR o3
 obtain ⟨p3, rfl, ch3⟩ := w_
 obtain ⟨rfl, rfl⟩ := k
 have w_ := q3.eq (Parts.nil_right _)
 obtain rfl := w_
 exact ⟨p3, by simp [Rl.cs, Gl.cs], ch3⟩
theorem Rl.sz_eq (x : Rl) : x.d.sz = x.name.size + x.body.d.sz := by
 rw [Rl.d_eq]
 simp [D.sz, D.szs]
theorem szRel_spec (x : Rl) {v : Value} {left : Int} (hv : RepV μ x.d v) (hl : 0 ≤ left) (hl2 : left ≤ 1048576) (hw : x.d.wd) : Gives Tryz.prog 122 [v, .int .i64 left] μ (.int .i64 (szR left x.d.sz)) := by
 have w_ := Rl.inv hv
 obtain ⟨p, rfl, hA⟩ := w_
 have hsz := Rl.sz_eq x
 rw [Rl.d_eq] at hw
 have m0 := maxLen_le hw.1
 refine Spec.mk Tryz.func122 (by kernel_rfl) ?_
 intro r
 refine num64 (by omega) (by omega) (ifd (fun h => rGv (by rw [szR_neg (by omega)]) rfl) (fun h => ?_))
 refine cGv (szGoal_spec x.body hA (by omega) (by omega) hw.2.2.2.1) ?_
 refine ifd (fun h => rGv (by have := szR_lt h; rw [szR_neg (by omega)]) rfl) (fun h => ?_)
 have q3 := szR_ge h
 rw [szR_pos q3] at h ⊢
 refine rGv ?_ rfl
 rw [szR_pos (by omega)]
 first | rfl | (congr 1; omega)
theorem szRelS_of {l : List Rl} (he : ∀ t ∈ l, ∀ {v : Value} {left : Int}, RepV μ t.d v → 0 ≤ left → left ≤ 1048576 → t.d.wd → Gives Tryz.prog 122 [v, .int .i64 left] μ (.int .i64 (szR left t.d.sz)))
  {base : Option Addr} {cap : Nat} {left : Int} (hsl : Sl μ 7 base l.length (l.map Rl.d)) (hl : 0 ≤ left) (hl2 : left ≤ 1048576) (hw : D.wds (l.map Rl.d)) :
  Gives Tryz.prog 59 [.slice base l.length cap, .int .i64 left] μ (.int .i64 (szR left (l.length + D.szs (l.map Rl.d)))) := by
 have hn := maxLen_le hsl.max
 refine Spec.mk Tryz.func59 (by kernel_rfl) ?_
 refine num64 (by omega) (by omega) (ifd (fun h => rGv ?_ rfl) (fun h => ?_))
 ·rw [szR_neg (by omega)]
 refine lIn (fun i : Nat => i ≤ l.length ∧ (D.szs ((l.map Rl.d).take i) : Int) ≤ left - l.length) (fun i => ⟨[(0, .val (.slice base l.length cap)), (1, .val (.int .i64 (left - l.length - D.szs ((l.map Rl.d).take i)))), (5, .val (.int .i64 i))], [], 0, μ, Mem.nil⟩) (fun i => l.length - i)
  0 ⟨by omega, by simp [D.szs]; omega⟩ (fun i => ⟨rfl, rfl⟩) ⟨⟨rfl, by show some (SV.val (.int .i64 _)) = some (SV.val (.int .i64 _)); congr 3; simp [D.szs], rfl, trivial⟩, trivial, rfl, rfl⟩ ?_
 rintro i ⟨hi, hz⟩
 refine ifd (fun h => ?_) (fun h => ?_)
 ·obtain ⟨t, ht⟩ := aSo (l := l) (i := i) (by omega)
  have hx := at_map (f := Rl.d) ht
  have hs := D.szs_take hx
  have hs' := D.szs_le (l.map Rl.d) (i + 1)
  obtain ⟨ad, p, hel, hr⟩ := Rl.elem hsl ht
  refine eIn hel (cGv (he t (mAt ht) hr (by omega) (by omega) (D.wds_mem hw _ (mAt hx))) ?_)
  refine ifd (fun h => rGv ?_ rfl) (fun h => ?_)
  ·have := szR_lt h
   rw [szR_neg (by omega)]
  ·have := szR_ge h
   refine num64 (by omega) (by omega) ⟨i + 1, ⟨by omega, by omega⟩, by omega, ⟨⟨rfl, ?_, rfl, trivial⟩, trivial, rfl, rfl⟩⟩
   rw [szR_pos this, hs]
   show some (SV.val (.int .i64 _)) = some (SV.val (.int .i64 _))
   congr 3; omega
 ·obtain rfl : i = l.length := by omega
  rw [List.take_of_length_le (by simp)] at hz ⊢
  refine rGv ?_ rfl
  rw [szR_pos (by omega)]; congr 1; omega
theorem szRelS_spec {l : List Rl} {base : Option Addr} {cap : Nat} {left : Int} (hsl : Sl μ 7 base l.length (l.map Rl.d)) (hl : 0 ≤ left) (hl2 : left ≤ 1048576) (hw : D.wds (l.map Rl.d)) :
  Gives Tryz.prog 59 [.slice base l.length cap, .int .i64 left] μ (.int .i64 (szR left (l.length + D.szs (l.map Rl.d)))) := szRelS_of (fun t _ _ _ => szRel_spec t) hsl hl hl2 hw
set_option maxRecDepth 4000 in
theorem toRel_spec (x : Rl) {μ : Mem} {v : Value} (hv : RepV μ x.d v) (hb : x.d.sz ≤ 1048576) : Spec Tryz.prog 130 [v] μ fun v μ' => Fresh μ μ' x.d v := by
 have w_ := Rl.inv hv
 obtain ⟨p, rfl, hA⟩ := w_
 have hsz := Rl.sz_eq x
 have A0 := hA
 refine Spec.mk Tryz.func130 (by kernel_rfl) ?_
 intro r1 r2 r3
 refine cPl (toGoal_spec x.body A0 (by omega)) fun u0 μ0 hle0 hf0 => ?_
 have w_ := Gl.invV hf0.rep
 obtain ⟨pp0, rfl⟩ := w_
 rw [Rl.d_eq]
 exact rPl (FreshS.st (FreshS.str (FreshS.int (FreshS.int (FreshS.cons hf0 hle0 (Mem.Le.refl _) (FreshS.nil))))))
theorem toRelS_of {l : List Rl} (he : ∀ t ∈ l, ∀ {μ : Mem} {v : Value}, RepV μ t.d v → t.d.sz ≤ 1048576 → Spec Tryz.prog 130 [v] μ fun v μ' => Fresh μ μ' t.d v)
  {base : Option Addr} {cap : Nat} (hsl : Sl μ 7 base l.length (l.map Rl.d)) (hb : l.length + D.szs (l.map Rl.d) ≤ 1048576) :
  Spec Tryz.prog 67 [.slice base l.length cap] μ fun v μ' => Fresh μ μ' (.sl 7 (l.map Rl.d)) v := by
 refine Spec.mk Tryz.func67 (by kernel_rfl) ?_
 refine make_intro l.length rfl rfl (by simp only; omega) (Nat.le_trans (m := 1048576) (by omega) (by decide)) ?_
 intro r
 refine lIn (fun p : Nat × List Value × Mem => μ.Le p.2.2 ∧ ∃ g, Filled 7 (.agg #[.string ⟨#[]⟩, .int .i64 0, .int .i64 0, .int .i64 0, .string ⟨#[]⟩, .slice none 0 0, .slice none 0 0]) μ p.2.2 (l.map Rl.d) p.1 p.2.1 g)
  (fun (i, xs, μ') => ⟨[(0, .val (.slice base l.length cap)), (3, .row 0 (some r) l.length l.length), (4, .val (.int .i64 i))], [(0, some (.row (some r) l.length 94 7 xs))], 1, μ', Mem.nil⟩) (fun p => l.length - p.1)
  (0, List.replicate l.length (.agg #[.string ⟨#[]⟩, .int .i64 0, .int .i64 0, .int .i64 0, .string ⟨#[]⟩, .slice none 0 0, .slice none 0 0]), μ) ⟨Mem.Le.refl μ, _, Filled.start (by simp)⟩ (fun (_, _, _) => ⟨rfl, rfl⟩) ⟨⟨rfl, rfl, rfl, trivial⟩, ⟨rfl, trivial⟩, rfl, rfl⟩ ?_
 rintro ⟨i, xs, μ'⟩ ⟨hle, g, hf⟩
 dsimp only at hle hf
 have hi := hf.le
 have hlen := hf.len
 rw [List.length_map] at hi hlen
 refine ifd (fun h => ?_) (fun h => ?_)
 ·obtain ⟨t, ht⟩ := aSo (l := l) (i := i) (by omega)
  have hx := at_map (f := Rl.d) ht
  have hs := D.szs_mem hx
  obtain ⟨ad, p, hel, hr⟩ := Rl.elem (hsl.mono hle) ht
  refine eIn hel (cPl (he t (mAt ht) hr (by omega)) fun v μ'' hle2 hfr => ?_)
  obtain ⟨g', hf'⟩ := hf.step hx (Rl.d_n t) hfr hle2
  obtain ⟨p2, rfl⟩ := Rl.invV hfr.rep
  refine rel_intro i rfl (by omega) ?_
  refine get_intro _ (hf.rest i (by omega) (by simpa using h)) ?_
  refine num64 (by omega) (by omega) ⟨(i + 1, _, μ''), ⟨hle.trans hle2, g', hf'⟩, by dsimp only; omega, ⟨⟨rfl, rfl, rfl, trivial⟩, ⟨rfl, trivial⟩, rfl, rfl⟩⟩
 ·obtain rfl : i = l.length := by omega
  refine rFz [0] fun μ2 hle2 hno hrow => .inl ?_
  have := Fresh.ofRow (hf.all (by simp)) hf.sub hf.new hle hle2 hno hrow (Nat.le_trans (m := 1048576) (by omega) (by decide))
  rw [hlen] at this
  exact this
theorem toRelS_spec {l : List Rl} {base : Option Addr} {cap : Nat} (hsl : Sl μ 7 base l.length (l.map Rl.d)) (hb : l.length + D.szs (l.map Rl.d) ≤ 1048576) :
  Spec Tryz.prog 67 [.slice base l.length cap] μ fun v μ' => Fresh μ μ' (.sl 7 (l.map Rl.d)) v := toRelS_of (fun t _ _ _ => toRel_spec t) hsl hb
theorem eqRel_spec (x : Rl) {v v' : Value} (hv : RepV μ x.d v) (hv' : RepV μ x.d v') : Gives Tryz.prog 140 [v, v'] μ (.bool true) := by
 have w_ := Rl.inv hv
 obtain ⟨p, rfl, hA⟩ := w_
 have w_ := Rl.inv hv'
 obtain ⟨p', rfl, hB⟩ := w_
 have A0 := hA
 have B0 := hB
 refine Spec.mk Tryz.func140 (by kernel_rfl) ?_
 intro r1 r2
 refine ifnd (fun h => absurd rfl h) (fun _ => ?_)
 refine ifnd (fun h => absurd rfl h) (fun _ => ?_)
 refine ifnd (fun h => absurd rfl h) (fun _ => ?_)
 refine cGv (eqGoal_spec x.body A0 B0) ?_
 refine iIn (fun h => nomatch h) (fun _ => ?_)
 exact rGv rfl rfl
theorem eqRelS_of {l : List Rl} (he : ∀ t ∈ l, ∀ {v v' : Value}, RepV μ t.d v → RepV μ t.d v' → Gives Tryz.prog 140 [v, v'] μ (.bool true))
  {base base' : Option Addr} {cap cap' : Nat} (hl : Sl μ 7 base l.length (l.map Rl.d)) (hl' : Sl μ 7 base' l.length (l.map Rl.d)) :
  Gives Tryz.prog 78 [.slice base l.length cap, .slice base' l.length cap'] μ (.bool true) := by
 have hn := maxLen_le hl.max
 refine Spec.mk Tryz.func78 (by kernel_rfl) ?_
 refine ifnd (fun h => absurd rfl h) (fun _ => ?_)
 refine lIn (fun i : Nat => i ≤ l.length) (fun i => ⟨[(0, .val (.slice base l.length cap)), (1, .val (.slice base' l.length cap')), (5, .val (.int .i64 i))], [], 0, μ, Mem.nil⟩) (fun i => l.length - i)
  0 (by omega) (fun i => ⟨rfl, rfl⟩) ⟨⟨rfl, rfl, rfl, trivial⟩, trivial, rfl, rfl⟩ ?_
 intro i hi
 refine ifd (fun h => ?_) (fun h => ?_)
 ·obtain ⟨t, ht⟩ := aSo (l := l) (i := i) (by omega)
  obtain ⟨ad, p, hel, hr⟩ := Rl.elem hl ht
  obtain ⟨ad', p', hel', hr'⟩ := Rl.elem hl' ht
  refine eIn hel (eIn hel' (cGv (he t (mAt ht) hr hr') ?_))
  refine iIn (fun h => nomatch h) (fun _ => ?_)
  exact num64 (by omega) (by omega) ⟨i + 1, by omega, by omega, ⟨⟨rfl, rfl, rfl, trivial⟩, trivial, rfl, rfl⟩⟩
 ·exact rGv rfl rfl
theorem eqRelS_spec {l : List Rl} {base base' : Option Addr} {cap cap' : Nat} (hl : Sl μ 7 base l.length (l.map Rl.d)) (hl' : Sl μ 7 base' l.length (l.map Rl.d)) :
  Gives Tryz.prog 78 [.slice base l.length cap, .slice base' l.length cap'] μ (.bool true) := eqRelS_of (fun t _ _ _ => eqRel_spec t) hl hl'
theorem Rl.mk_eq (x : Rl) (k : Int) : x.d.mk k = (.st [.s (mtext (k)), .i (k + 1), .i (k + 1 + 1), .st [.i (k + 1 + 1 + 1), .s (mtext (k + 1 + 1 + 1 + 1)), .sl 4 (D.mks (x.body.terms.map Tm.d) (k + 1 + 1 + 1 + 1 + 1)).1, .sl 4 (D.mks (x.body.goals.map Gl.d) ((D.mks (x.body.terms.map Tm.d) (k + 1 + 1 + 1 + 1 + 1)).2)).1]], (D.mks (x.body.goals.map Gl.d) ((D.mks (x.body.terms.map Tm.d) (k + 1 + 1 + 1 + 1 + 1)).2)).2) := by
 rw [Rl.d_eq]
 simp only [D.mk, D.mks, Gl.mk_eq]
theorem Rl.cnt_eq (x : Rl) : x.d.cnt = 5 + D.cnts (x.body.terms.map Tm.d) + D.cnts (x.body.goals.map Gl.d) := by
 rw [Rl.d_eq]
 simp only [D.cnt, D.cnts, Gl.cnt_eq]
 omega
set_option maxHeartbeats 1000000 in
theorem markRelS_spec {l : List Rl} {h : Mem} {v : Value} {k : Int} (ho : OwnV (.sl 7 (l.map Rl.d)) h v) (hk : 0 ≤ k) (hk2 : k + D.cnts (l.map Rl.d) ≤ 9223372036854775807) :
  SpecH Tryz.prog 79 [v, .int .i64 k] μ h fun r μ' h' => r = .int .i64 (D.mks (l.map Rl.d) k).2 ∧ μ' = μ ∧ OwnV (.sl 7 (D.mks (l.map Rl.d) k).1) h' v := by
 obtain ⟨base, cap, e, hm, hn, ho⟩ := ho
 simp only [List.cons.injEq, and_true] at e
 subst e
 have hm' : (l.map Rl.d).length ≤ 9223372036854775807 := Nat.le_trans hm.max (by decide)
 refine SpecH.mk [] Tryz.func79 (by kernel_rfl) ?_
 rcases ho with ⟨hnil, rfl⟩ | ⟨r, flat, rest, ty, h2, rfl, hr, rfl, ho⟩
 ·rw [hnil]
  refine lIn (fun i : Nat => i = 0) (fun i => ⟨[(0, .val (.slice base 0 cap)), (1, .val (.int .i64 k)), (5, .val (.int .i64 i))], [], 0, μ, Mem.nil⟩) (fun i => 0 - i)
   0 rfl (fun i => ⟨rfl, rfl⟩) ⟨⟨rfl, rfl, rfl, trivial⟩, trivial, rfl, rfl⟩ ?_
  rintro i rfl
  refine ifd (fun h => by omega) (fun h => rPl ⟨rfl, rfl, base, cap, rfl, ⟨Nat.zero_le _, Nat.zero_le _⟩, by simp [D.mks], .inl ⟨rfl, rfl⟩⟩)
 ·generalize hxs : l.map Rl.d = xs at *
  refine lIn (fun p : Nat × List Value × List Value × Mem => Marking xs k rest r p.1 p.2.1 p.2.2.1 p.2.2.2)
   (fun (i, pre, tail, hh) => ⟨[(0, .val (.slice (some ⟨r, 0, none⟩) xs.length cap)), (1, .val (.int .i64 (D.mks (xs.take i) k).2)), (5, .val (.int .i64 i))], [], 0, μ, hh.set r (.cells (List.toArray (pre ++ tail)) ty (0, 0))⟩) (fun p => xs.length - p.1)
   (0, [], flat ++ rest, h2) (Marking.start hr ho) (fun (_, _, _, _) => ⟨rfl, rfl⟩) ⟨⟨rfl, rfl, rfl, trivial⟩, trivial, rfl, rfl⟩ ?_
  rintro ⟨i, pre, tail, hh⟩ M
  dsimp only at M
  have hi := M.le
  have hge := D.mks_cnt (xs.take i) k
  refine ifd (fun h => ?_) (fun h => ?_)
  ·obtain ⟨x, ht⟩ := aSo (l := l) (i := i) (by rw [← hxs] at h; simp at h; omega)
   have hx : xs[i]? = some x.d := by rw [← hxs]; simp [ht]
   have w_ := M.next hx
   obtain ⟨c, g, m, c2, rfl, hown, hp, hmr, back⟩ := w_
   have w_ := Rl.ownR hown
   obtain ⟨p, rfl, ch⟩ := w_
   have hlen := M.len hn
   have hcnt := Marking.cnt (k := k) hx
   rw [Rl.cnt_eq] at hcnt
   generalize hk0 : (D.mks (xs.take i) k).2 = k0 at *
   have hs0 := D.mks_cnt (x.body.terms.map Tm.d) (k0 + 1 + 1 + 1 + 1 + 1)
   have hs1 := D.mks_cnt (x.body.goals.map Gl.d) ((D.mks (x.body.terms.map Tm.d) (k0 + 1 + 1 + 1 + 1 + 1)).2)
   obtain ⟨g1, g2, q0, ch0, ch1⟩ := ch
   have q1 := Parts.nil_right g2
   have P0 := hp.symm
   have R0 := M.out
   refine cGv (markText_spec _ (by omega)) ?_
   refine ptr_intro ⟨r, 0, none⟩ rfl (by omega) (by omega) ?_
   refine sto_at (j := 0) (by simp [Addr.add_lit', hlen]) (by simp [Rl.cs]) ?_
   refine num64 (by omega) (by omega) ?_
   refine ptr_intro ⟨r, 0, none⟩ rfl (by omega) (by omega) ?_
   refine sto_at (j := 1) (by simp [Addr.add_lit', hlen]) (by simp [Rl.cs]) ?_
   refine num64 (by omega) (by omega) ?_
   refine ptr_intro ⟨r, 0, none⟩ rfl (by omega) (by omega) ?_
   refine sto_at (j := 2) (by simp [Addr.add_lit', hlen]) (by simp [Rl.cs]) ?_
   refine num64 (by omega) (by omega) ?_
   refine ptr_intro ⟨r, 0, none⟩ rfl (by omega) (by omega) ?_
   refine sto_at (j := 3) (by simp [Addr.add_lit', hlen]) (by simp [Rl.cs]) ?_
   refine num64 (by omega) (by omega) ?_
   refine cGv (markText_spec _ (by omega)) ?_
   refine ptr_intro ⟨r, 0, none⟩ rfl (by omega) (by omega) ?_
   refine sto_at (j := 4) (by simp [Addr.add_lit', hlen]) (by simp [Rl.cs]) ?_
   refine num64 (by omega) (by omega) ?_
   refine ptr_intro ⟨r, 0, none⟩ rfl (by omega) (by omega) ?_
   refine own_at (j := 5) (by simp [Addr.add_lit', hlen]) rfl ?_
   have w_ := mark_step R0 P0 q0
   obtain ⟨mm0, st0⟩ := w_
   refine cOw (SpecH.frame (st0 _).1 (markTermS_spec ch0 (by omega) (by omega))) fun v0 μ0 H0 hle0 hap0 hR0 => ?_
   obtain ⟨y0, ⟨rfl, eμ0, oo0⟩, pp0⟩ := hR0
   subst eμ0
   have w_ := (st0 _).2 _ _ pp0
   obtain ⟨M1, hh1, rfl, R1, n0, ap0, mj0, P1⟩ := w_
   refine ptr_intro ⟨r, 0, none⟩ rfl (by omega) (by omega) ?_
   refine own_at (j := 6) (by simp [Addr.add_lit', hlen]) rfl ?_
   have w_ := mark_step R1 P1 q1
   obtain ⟨mm1, st1⟩ := w_
   refine cOw (SpecH.frame (st1 _).1 (markGoalS_spec ch1 (by omega) (by omega))) fun v1 μ1 H1 hle1 hap1 hR1 => ?_
   obtain ⟨y1, ⟨rfl, eμ1, oo1⟩, pp1⟩ := hR1
   subst eμ1
   have w_ := (st1 _).2 _ _ pp1
   obtain ⟨M2, hh2, rfl, R2, n1, ap1, mj1, P2⟩ := w_
   have e1 := P2.eq (Parts.nil_right _)
   subst e1
   have w_ := mj1.assoc mj0
   obtain ⟨gg, u1, u2⟩ := w_
   have e2 := u2.is_join
   subst e2
   have PP := u1.symm
   have hmk := D.mks_take hx k
   have hmk2 := Rl.mk_eq x k0
   rw [hk0] at hmk
   refine num64 (by omega) (by omega) ⟨(i + 1, pre ++ [.string (mtext (k0)), .int .i64 (k0 + 1), .int .i64 (k0 + 1 + 1), .int .i64 (k0 + 1 + 1 + 1), .string (mtext (k0 + 1 + 1 + 1 + 1)), .slice p.1.1 x.body.terms.length p.1.2, .slice p.2.1 x.body.goals.length p.2.2], c2 ++ rest, Mem.join gg m), back _ _ u2.apart (u1.none_of n1 n0) ?_, by dsimp only; omega, ⟨⟨rfl, ?_, rfl, trivial⟩, trivial, rfl, ?_⟩⟩
   ·rw [hmk2]
    exact OwnS.str (OwnS.int (OwnS.int (OwnS.last (OwnS.int (OwnS.str (OwnS.cons (c1 := [_]) PP oo0 (OwnS.last oo1)))))))
   ·rw [hmk, hmk2]
    rfl
   ·simp [Rl.cs]
  ·have hi' : i = xs.length := by omega
   subst hi'
   obtain ⟨rfl, o1⟩ := M.last
   refine rPl ⟨by rw [List.take_length], rfl, some ⟨r, 0, none⟩, cap, by rw [D.mks_length], by rw [D.mks_length]; exact hm, D.mks_size k hn, .inr ⟨r, pre, tail, ty, hh, rfl, M.out, rfl, o1⟩⟩
theorem read_Rel : Reads Tryz.prog 148 fun d => ∃ x : Rl, d = x.d ∧ x.d.wd
 | 0 => ReadsTo.zero _
 | n + 1 => (reads_struct ti148 rfl (FieldsTo.cons ti9 (reads_str und_string n) (FieldsTo.cons ti3 (reads_int und_int n) (FieldsTo.cons ti3 (reads_int und_int n) (FieldsTo.cons ti25 (read_Goal n) FieldsTo.nil))))).weaken fun d h => by
  obtain ⟨ds, rfl, h⟩ := h
  obtain ⟨_, _, rfl, ⟨x0, rfl, w0⟩, q0⟩ := h.cons
  obtain ⟨_, _, rfl, ⟨x1, rfl, w1⟩, q1⟩ := q0.cons
  obtain ⟨_, _, rfl, ⟨x2, rfl, w2⟩, q2⟩ := q1.cons
  obtain ⟨_, _, rfl, ⟨x3, rfl, w3⟩, q3⟩ := q2.cons
  obtain rfl := q3.nil
  refine ⟨.mk x0 x1 x2 x3, (Rl.d_eq (.mk x0 x1 x2 x3)).symm, ?_⟩
  rw [Rl.d_eq]
  exact ⟨w0, w1, w2, w3, trivial⟩
theorem read_RelS : Reads Tryz.prog 36 fun d => ∃ l : List Rl, d = .sl 7 (l.map Rl.d) ∧ D.wds (l.map Rl.d) := fun n =>
 (reads_sl ti36.kind (cellsOf_tt ti148) (fun d h => by obtain ⟨a, rfl, _⟩ := h; exact Rl.d_n a) read_Rel n).weaken fun d h => by
  obtain ⟨xs, rfl, hx⟩ := h
  obtain ⟨l, rfl⟩ := lift_list (f := Rl.d) fun x h => by obtain ⟨t, h, _⟩ := hx x h; exact ⟨t, h⟩
  exact ⟨l, rfl, D.wds_of fun x hm => by obtain ⟨t, rfl, h⟩ := hx x hm; exact h⟩
end
end Go.Vx
namespace Go.Vx
open Go.Proofs Classical
structure Pg where
 rels : List Rl
def Pg.d (x : Pg) : D := .st [.sl 7 (x.rels.map Rl.d)]
theorem Pg.d_eq (x : Pg) : x.d = .st [.sl 7 (x.rels.map Rl.d)] := rfl
theorem Pg.d_n (x : Pg) : x.d.n = 1 := by
 rw [Pg.d_eq]
 simp only [D.n, D.ns]
abbrev Pg.P := (Option Addr × Nat)
def Pg.cs (x : Pg) (p : Pg.P) : List Value := [.slice p.1 x.rels.length p.2]
section
variable {μ : Mem}
def Pg.At (μ : Mem) (x : Pg) (p : Pg.P) : Prop := Sl μ 7 p.1 x.rels.length (x.rels.map Rl.d)
theorem Pg.invA {x : Pg} {cs : List Value} (h : Rep μ x.d cs) : ∃ p : Pg.P, cs = x.cs p ∧ Pg.At μ x p := by
 rw [Pg.d_eq] at h
 obtain ⟨a0, t0, rfl, h0, h⟩ := h
 have w_ := one_of (Rep.len _ _ h0)
 obtain ⟨v0, rfl⟩ := w_
 have w_ := Rep.sl h0
 obtain ⟨b0, c0, rfl, s0⟩ := w_
 rw [List.length_map] at s0
 obtain rfl : t0 = [] := h
 exact ⟨(b0, c0), by simp [Pg.cs], s0⟩
theorem Pg.rep {x : Pg} {cs : List Value} (h : Rep μ x.d cs) : RepV μ x.d (.agg cs.toArray) := by
 rw [Pg.d_eq] at h ⊢; exact ⟨cs, rfl, h⟩
theorem Pg.invR {x : Pg} {cs : List Value} (h : Rep μ x.d cs) : ∃ p : Pg.P, cs = x.cs p ∧ RepV μ x.d (.agg (x.cs p).toArray) := by
 have w_ := Pg.invA h
 obtain ⟨p, e, _⟩ := w_
 subst e
 exact ⟨p, rfl, Pg.rep h⟩
theorem Pg.inv {x : Pg} {v : Value} (h : RepV μ x.d v) : ∃ p : Pg.P, v = .agg #[.slice p.1 x.rels.length p.2] ∧ Pg.At μ x p := by
 have h2 : ∃ cs, v = .agg (List.toArray cs) ∧ Rep μ x.d cs := by rw [Pg.d_eq] at h ⊢; exact h
 obtain ⟨cs, rfl, h3⟩ := h2
 have w_ := Pg.invA h3
 obtain ⟨p, rfl, hA⟩ := w_
 exact ⟨p, rfl, hA⟩
theorem Pg.invV {x : Pg} {v : Value} (h : RepV μ x.d v) : ∃ p : Pg.P, v = .agg #[.slice p.1 x.rels.length p.2] := by
 have w_ := Pg.inv h
 obtain ⟨p, h, _⟩ := w_
 exact ⟨p, h⟩
theorem Pg.elemA {l : List Pg} {base : Option Addr} {n : Nat} (h : Sl μ 1 base n (l.map Pg.d)) {i : Nat} {x : Pg} (hx : l[i]? = some x) : ∃ ad, ∃ p : Pg.P, ElemAt μ base n 1 i ad (x.cs p) ∧ RepV μ x.d (.agg (x.cs p).toArray) ∧ Pg.At μ x p := by
 have w_ := h.get i x.d (by simp [hx])
 obtain ⟨ad, cs, h1, h2⟩ := w_
 have w_ := Pg.invA h2
 obtain ⟨p, rfl, hA⟩ := w_
 exact ⟨ad, p, h1, Pg.rep h2, hA⟩
theorem Pg.elem {l : List Pg} {base : Option Addr} {n : Nat} (h : Sl μ 1 base n (l.map Pg.d)) {i : Nat} {x : Pg} (hx : l[i]? = some x) : ∃ ad, ∃ p : Pg.P, ElemAt μ base n 1 i ad (x.cs p) ∧ RepV μ x.d (.agg (x.cs p).toArray) := by
 have w_ := Pg.elemA h hx
 obtain ⟨ad, p, h1, h2, _⟩ := w_
 exact ⟨ad, p, h1, h2⟩
theorem Pg.ownR {x : Pg} {h : Mem} {cs : List Value} (k : Own x.d h cs) : ∃ p : Pg.P, cs = x.cs p ∧ OwnV (.sl 7 (x.rels.map Rl.d)) h (.slice p.1 x.rels.length p.2) := by
 rw [Pg.d_eq] at k
 obtain ⟨a0, t0, h0, r0, rfl, q0, o0, k⟩ := k
 have w_ := one_of (Own.len o0)
 obtain ⟨v0, rfl⟩ := w_
 have w_ := Own.sl o0
 obtain ⟨b0, c0, rfl⟩ := w_
 rw [List.length_map] at o0
 obtain ⟨rfl, rfl⟩ := k
 have w_ := q0.eq (Parts.nil_right _)
 obtain rfl := w_
 exact ⟨(b0, c0), by simp [Pg.cs], o0⟩
theorem Pg.sz_eq (x : Pg) : x.d.sz = (x.rels.length + D.szs (x.rels.map Rl.d)) := by
 rw [Pg.d_eq]
 simp [D.sz, D.szs]
theorem szProgram_spec (x : Pg) {v : Value} {left : Int} (hv : RepV μ x.d v) (hl : 0 ≤ left) (hl2 : left ≤ 1048576) (hw : x.d.wd) : Gives Tryz.prog 16 [v, .int .i64 left] μ (.int .i64 (szR left x.d.sz)) := by
 have w_ := Pg.inv hv
 obtain ⟨p, rfl, hA⟩ := w_
 have hsz := Pg.sz_eq x
 rw [Pg.d_eq] at hw
 refine Spec.mk Tryz.func16 (by kernel_rfl) ?_
 intro r
 refine cGv (szRelS_spec hA (by omega) (by omega) hw.1) ?_
 refine ifd (fun h => rGv (by have := szR_lt h; rw [szR_neg (by omega)]) rfl) (fun h => ?_)
 have q0 := szR_ge h
 rw [szR_pos q0] at h ⊢
 refine rGv ?_ rfl
 rw [szR_pos (by omega)]
 first | rfl | (congr 1; omega)
set_option maxRecDepth 4000 in
theorem toProgram_spec (x : Pg) {μ : Mem} {v : Value} (hv : RepV μ x.d v) (hb : x.d.sz ≤ 1048576) : Spec Tryz.prog 19 [v] μ fun v μ' => Fresh μ μ' x.d v := by
 have w_ := Pg.inv hv
 obtain ⟨p, rfl, hA⟩ := w_
 have hsz := Pg.sz_eq x
 have A0 := hA
 refine Spec.mk Tryz.func19 (by kernel_rfl) ?_
 intro r1 r2 r3
 refine cPl (toRelS_spec A0 (by omega)) fun u0 μ0 hle0 hf0 => ?_
 have w_ := Rep.sl hf0.rep
 obtain ⟨bb0, cc0, rfl, _⟩ := w_
 rw [Pg.d_eq]
 exact rPl (FreshS.st (FreshS.cons hf0 hle0 (Mem.Le.refl _) (FreshS.nil)))
theorem eqProgram_spec (x : Pg) {v v' : Value} (hv : RepV μ x.d v) (hv' : RepV μ x.d v') : Gives Tryz.prog 22 [v, v'] μ (.bool true) := by
 have w_ := Pg.inv hv
 obtain ⟨p, rfl, hA⟩ := w_
 have w_ := Pg.inv hv'
 obtain ⟨p', rfl, hB⟩ := w_
 have A0 := hA
 have B0 := hB
 refine Spec.mk Tryz.func22 (by kernel_rfl) ?_
 intro r1 r2
 refine cGv (eqRelS_spec A0 B0) ?_
 refine iIn (fun h => nomatch h) (fun _ => ?_)
 exact rGv rfl rfl
theorem Pg.mk_eq (x : Pg) (k : Int) : x.d.mk k = (.st [.sl 7 (D.mks (x.rels.map Rl.d) (k)).1], (D.mks (x.rels.map Rl.d) (k)).2) := by
 rw [Pg.d_eq]
 simp only [D.mk, D.mks]
theorem Pg.cnt_eq (x : Pg) : x.d.cnt = 0 + D.cnts (x.rels.map Rl.d) := by
 rw [Pg.d_eq]
 simp only [D.cnt, D.cnts]
 omega
theorem Pg.mt_eq (x : Pg) (k : Int) : x.d.mt k = (.st [.sl 7 (D.mks (x.rels.map Rl.d) (k)).1], (D.mks (x.rels.map Rl.d) (k)).2) := by
 rw [Pg.d_eq]
 simp only [D.mt, D.mts]
theorem markProgram_spec (x : Pg) {h : Mem} {v : Value} {k : Int} (ho : OwnV x.d h v) (hk : 0 ≤ k) (hk2 : k + (D.cnts (x.rels.map Rl.d)) ≤ 9223372036854775807) :
  SpecH Tryz.prog 24 [v, .int .i64 k] μ h fun r μ' h' => r = .int .i64 (x.d.mt k).2 ∧ μ' = μ ∧ OwnV (x.d.mt k).1 h' v := by
 have ho2 : ∃ cs, v = .agg (List.toArray cs) ∧ Own x.d h cs := by rw [Pg.d_eq] at ho ⊢; exact ho
 obtain ⟨cs, rfl, ho2⟩ := ho2
 have w_ := Pg.ownR ho2
 obtain ⟨p, rfl, ch⟩ := w_
 rw [Pg.mt_eq]
 have hs0 := D.mks_cnt (x.rels.map Rl.d) (k)
 refine SpecH.mk [] Tryz.func24 (by kernel_rfl) ?_
 intro r
 refine cOw (markRelS_spec ch (by omega) (by omega)) fun v μ' h' hle hap hR => ?_
 obtain ⟨rfl, e, oo0⟩ := hR
 subst e
 exact rPl ⟨rfl, rfl, _, rfl, OwnS.last oo0⟩
theorem read_Program : Reads Tryz.prog 38 fun d => ∃ x : Pg, d = x.d ∧ x.d.wd
 | 0 => ReadsTo.zero _
 | n + 1 => (reads_struct ti38 rfl (FieldsTo.cons ti36 (read_RelS n) FieldsTo.nil)).weaken fun d h => by
  obtain ⟨ds, rfl, h⟩ := h
  obtain ⟨_, _, rfl, ⟨x0, rfl, w0⟩, q0⟩ := h.cons
  obtain rfl := q0.nil
  refine ⟨.mk x0, (Pg.d_eq (.mk x0)).symm, ?_⟩
  rw [Pg.d_eq]
  exact ⟨w0, trivial⟩
end
end Go.Vx
namespace Go.Vx
open Go.Proofs Classical
structure Fc where
 rel : ByteArray
 args : List Tm
def Fc.d (x : Fc) : D := .st [.s x.rel, .sl 4 (x.args.map Tm.d)]
theorem Fc.d_eq (x : Fc) : x.d = .st [.s x.rel, .sl 4 (x.args.map Tm.d)] := rfl
theorem Fc.d_n (x : Fc) : x.d.n = 2 := by
 rw [Fc.d_eq]
 simp only [D.n, D.ns]
abbrev Fc.P := (Option Addr × Nat)
def Fc.cs (x : Fc) (p : Fc.P) : List Value := [.string x.rel, .slice p.1 x.args.length p.2]
section
variable {μ : Mem}
def Fc.At (μ : Mem) (x : Fc) (p : Fc.P) : Prop := Sl μ 4 p.1 x.args.length (x.args.map Tm.d)
theorem Fc.invA {x : Fc} {cs : List Value} (h : Rep μ x.d cs) : ∃ p : Fc.P, cs = x.cs p ∧ Fc.At μ x p := by
 rw [Fc.d_eq] at h
 obtain ⟨a0, t0, rfl, h0, h⟩ := h
 have h0 : a0 = [.string x.rel] := h0
 subst h0
 obtain ⟨a1, t1, rfl, h1, h⟩ := h
 have w_ := one_of (Rep.len _ _ h1)
 obtain ⟨v1, rfl⟩ := w_
 have w_ := Rep.sl h1
 obtain ⟨b1, c1, rfl, s1⟩ := w_
 rw [List.length_map] at s1
 obtain rfl : t1 = [] := h
 exact ⟨(b1, c1), by simp [Fc.cs], s1⟩
theorem Fc.rep {x : Fc} {cs : List Value} (h : Rep μ x.d cs) : RepV μ x.d (.agg cs.toArray) := by
 rw [Fc.d_eq] at h ⊢; exact ⟨cs, rfl, h⟩
theorem Fc.invR {x : Fc} {cs : List Value} (h : Rep μ x.d cs) : ∃ p : Fc.P, cs = x.cs p ∧ RepV μ x.d (.agg (x.cs p).toArray) := by
 have w_ := Fc.invA h
 obtain ⟨p, e, _⟩ := w_
 subst e
 exact ⟨p, rfl, Fc.rep h⟩
theorem Fc.inv {x : Fc} {v : Value} (h : RepV μ x.d v) : ∃ p : Fc.P, v = .agg #[.string x.rel, .slice p.1 x.args.length p.2] ∧ Fc.At μ x p := by
 have h2 : ∃ cs, v = .agg (List.toArray cs) ∧ Rep μ x.d cs := by rw [Fc.d_eq] at h ⊢; exact h
 obtain ⟨cs, rfl, h3⟩ := h2
 have w_ := Fc.invA h3
 obtain ⟨p, rfl, hA⟩ := w_
 exact ⟨p, rfl, hA⟩
theorem Fc.invV {x : Fc} {v : Value} (h : RepV μ x.d v) : ∃ p : Fc.P, v = .agg #[.string x.rel, .slice p.1 x.args.length p.2] := by
 have w_ := Fc.inv h
 obtain ⟨p, h, _⟩ := w_
 exact ⟨p, h⟩
theorem Fc.elemA {l : List Fc} {base : Option Addr} {n : Nat} (h : Sl μ 2 base n (l.map Fc.d)) {i : Nat} {x : Fc} (hx : l[i]? = some x) : ∃ ad, ∃ p : Fc.P, ElemAt μ base n 2 i ad (x.cs p) ∧ RepV μ x.d (.agg (x.cs p).toArray) ∧ Fc.At μ x p := by
 have w_ := h.get i x.d (by simp [hx])
 obtain ⟨ad, cs, h1, h2⟩ := w_
 have w_ := Fc.invA h2
 obtain ⟨p, rfl, hA⟩ := w_
 exact ⟨ad, p, h1, Fc.rep h2, hA⟩
theorem Fc.elem {l : List Fc} {base : Option Addr} {n : Nat} (h : Sl μ 2 base n (l.map Fc.d)) {i : Nat} {x : Fc} (hx : l[i]? = some x) : ∃ ad, ∃ p : Fc.P, ElemAt μ base n 2 i ad (x.cs p) ∧ RepV μ x.d (.agg (x.cs p).toArray) := by
 have w_ := Fc.elemA h hx
 obtain ⟨ad, p, h1, h2, _⟩ := w_
 exact ⟨ad, p, h1, h2⟩
theorem Fc.ownR {x : Fc} {h : Mem} {cs : List Value} (k : Own x.d h cs) : ∃ p : Fc.P, cs = x.cs p ∧ OwnV (.sl 4 (x.args.map Tm.d)) h (.slice p.1 x.args.length p.2) := by
 rw [Fc.d_eq] at k
 obtain ⟨a0, t0, h0, r0, rfl, q0, o0, k⟩ := k
 obtain ⟨rfl, rfl⟩ := o0
 have w_ := q0.eq (Parts.nil_left _)
 obtain rfl := w_
 obtain ⟨a1, t1, h1, r1, rfl, q1, o1, k⟩ := k
 have w_ := one_of (Own.len o1)
 obtain ⟨v1, rfl⟩ := w_
 have w_ := Own.sl o1
 obtain ⟨b1, c1, rfl⟩ := w_
 rw [List.length_map] at o1
 obtain ⟨rfl, rfl⟩ := k
 have w_ := q1.eq (Parts.nil_right _)
 obtain rfl := w_
 exact ⟨(b1, c1), by simp [Fc.cs], o1⟩
theorem Fc.sz_eq (x : Fc) : x.d.sz = x.rel.size + (x.args.length + D.szs (x.args.map Tm.d)) := by
 rw [Fc.d_eq]
 simp [D.sz, D.szs]
theorem Fc.mk_eq (x : Fc) (k : Int) : x.d.mk k = (.st [.s (mtext (k)), .sl 4 (D.mks (x.args.map Tm.d) (k + 1)).1], (D.mks (x.args.map Tm.d) (k + 1)).2) := by
 rw [Fc.d_eq]
 simp only [D.mk, D.mks]
theorem Fc.cnt_eq (x : Fc) : x.d.cnt = 1 + D.cnts (x.args.map Tm.d) := by
 rw [Fc.d_eq]
 simp only [D.cnt, D.cnts]
 omega
theorem Fc.mt_eq (x : Fc) (k : Int) : x.d.mt k = (.st [.s x.rel, .sl 4 (D.mks (x.args.map Tm.d) (k)).1], (D.mks (x.args.map Tm.d) (k)).2) := by
 rw [Fc.d_eq]
 simp only [D.mt, D.mts]
end
end Go.Vx
namespace Go.Vx
open Go.Proofs Classical
mutual
def Gl.cnt : Gl → Nat
 | .mk _ _ _ l => 1 + Gl.cnts l
def Gl.cnts : List Gl → Nat
 | [] => 0
 | t :: r => t.cnt + Gl.cnts r
end
theorem Gl.cnt_eq1 (g : Gl) : g.cnt = 1 + Gl.cnts g.goals := by cases g; rfl
theorem Gl.cnt_pos (g : Gl) : 1 ≤ g.cnt := by rw [Gl.cnt_eq1]; omega
theorem Gl.cnts_append : ∀ (a c : List Gl), Gl.cnts (a ++ c) = Gl.cnts a + Gl.cnts c
 | [], c => by simp [Gl.cnts]
 | d :: r, c => by simp [Gl.cnts, Gl.cnts_append r c, Nat.add_assoc]
theorem Gl.cnts_take {xs : List Gl} {j : Nat} {x : Gl} (h : xs[j]? = some x) : Gl.cnts (xs.take (j + 1)) = Gl.cnts (xs.take j) + x.cnt := by
 rw [List.take_add_one, h, Option.toList_some, Gl.cnts_append]; simp [Gl.cnts]
theorem Gl.cnts_le (xs : List Gl) (j : Nat) : Gl.cnts (xs.take j) ≤ Gl.cnts xs := by
 have := Gl.cnts_append (xs.take j) (xs.drop j)
 rw [List.take_append_drop] at this; omega
structure TopOk (g : Gl) : Prop where
 tm : ∀ t ∈ g.terms, t.Ok
 k0 : 0 ≤ g.kind
 k1 : g.kind ≤ 10
 nm : g.kind ≠ 9 → g.name = ⟨#[]⟩
 rel : g.kind = 9 → IsRel g.name
 ln9 : g.kind = 9 → g.terms.length ≤ 4
 ln2 : g.kind = 2 ∨ g.kind = 3 ∨ g.kind = 6 → g.terms.length = 2
 ln1 : g.kind = 4 ∨ g.kind = 5 → g.terms.length = 1
 ln0 : g.kind = 0 ∨ g.kind = 1 ∨ g.kind = 7 ∨ g.kind = 8 ∨ g.kind = 10 → g.terms.length = 0
 gl : g.goals.length ≤ 8
 gl0 : g.kind < 7 ∨ g.kind = 9 → g.goals.length = 0
 gl1 : g.kind = 10 → g.goals.length = 1
 sy : g.kind = 6 → ∀ a, g.terms[0]? = some a → a.kind = 2
 cl : g.kind = 10 → ∀ b, g.goals[0]? = some b → b.kind = 9
inductive Gl.Sh : Gl → Prop
 | mk {g : Gl} (top : TopOk g) (sub : ∀ x ∈ g.goals, x.Sh) : g.Sh
theorem Gl.Sh.top {g : Gl} (h : g.Sh) : TopOk g := by cases h; assumption
theorem Gl.Sh.sub {g : Gl} (h : g.Sh) : ∀ x ∈ g.goals, x.Sh := by cases h; assumption
def Gl.Ok (g : Gl) : Prop := g.Sh ∧ g.cnt ≤ 80
section
variable {μ : Mem}
theorem l13Count_spec : ∀ (g : Gl) {v : Value} {most : Int}, RepV μ g.d v → -1000000000000 ≤ most → most ≤ 1000000000000 → Gives Tryz.prog 108 [v, .int .i64 most] μ (.int .i64 (upTo g.cnt most)) :=
 Gl.ind fun g ih v most hv h1 h2 => by
  have w_ := Gl.inv hv
  obtain ⟨p, rfl, -, hsl⟩ := w_
  have hn := maxLen_le hsl.max
  have hge := Gl.cnt_eq1 g
  generalize hl : g.goals = l at *
  refine Spec.mk Tryz.func108 (by kernel_rfl) ?_
  intro r
  refine lIn (fun i : Nat => i ≤ l.length) (fun i => ⟨[(1, .val (.int .i64 most)), (5, .val (.int .i64 (upTo (1 + Gl.cnts (l.take i) : Nat) most))), (9, .val (.slice p.2.1 l.length p.2.2)), (10, .val (.int .i64 l.length)), (11, .val (.int .i64 i))], [], 1, μ, Mem.nil⟩) (fun i => l.length - i)
   0 (by omega) (fun i => ⟨rfl, rfl⟩) ⟨⟨rfl, by show some (SV.val (.int .i64 _)) = some (SV.val (.int .i64 _)); congr 3; simp [Gl.cnts, upTo]; omega, rfl, rfl, rfl, trivial⟩, trivial, rfl, rfl⟩ ?_
  intro i hi
  refine ifd (fun h => ?_) (fun h => ?_)
  ·have w_ := aSo (l := l) (i := i) (by omega)
   obtain ⟨t, ht⟩ := w_
   have hc := Gl.cnts_take ht
   have hc' := Gl.cnts_le l (i + 1)
   have w_ := Gl.elem hsl ht
   obtain ⟨ad, p, hel, hr⟩ := w_
   refine eIn hel ?_
   intro r2
   refine ifd (fun h => rGv ?_ rfl) (fun h => ?_)
   ·simp only [upTo] at h ⊢
    congr 1; omega
   ·have hb : upTo (1 + Gl.cnts (l.take i) : Nat) most ≤ 1000000000001 ∧ 1 ≤ upTo (1 + Gl.cnts (l.take i) : Nat) most := by unfold upTo; omega
    refine num64 (by omega) (by omega) ?_
    refine cGv (ih t (mAt ht) hr (by omega) (by omega)) ?_
    refine nEq (x := upTo (1 + Gl.cnts (l.take (i + 1)) : Nat) most) ?_ ?_
    ·have hb2 : upTo (t.cnt : Int) (most - upTo (1 + Gl.cnts (l.take i) : Nat) most) ≤ 1000000000001 ∧ 1 ≤ upTo (t.cnt : Int) (most - upTo (1 + Gl.cnts (l.take i) : Nat) most) := by
      have := t.cnt_pos
      unfold upTo at hb h ⊢
      omega
     rw [wrap64 (by omega) (by omega), hc]
     unfold upTo at h ⊢; omega
    ·exact num64 (by omega) (by omega) ⟨i + 1, by omega, by omega, ⟨⟨rfl, rfl, rfl, rfl, rfl, trivial⟩, trivial, rfl, rfl⟩⟩
  ·obtain rfl : i = l.length := by omega
   rw [List.take_length]
   exact rGv (by rw [hge]) rfl
theorem kinds_at {n k : Nat} (hk : k ≤ 10) : ([.int .i64 0, .int .i64 0, .int .i64 2, .int .i64 2, .int .i64 1, .int .i64 1, .int .i64 2, .int .i64 0, .int .i64 0, .int .i64 n, .int .i64 0] : List Value)[k]? = some (.int .i64 (if k = 2 ∨ k = 3 ∨ k = 6 then 2 else if k = 4 ∨ k = 5 then 1 else if k = 9 then n else 0)) := by
 match k, hk with
 | 0, _ => rfl
 | 1, _ => rfl
 | 2, _ => rfl
 | 3, _ => rfl
 | 4, _ => rfl
 | 5, _ => rfl
 | 6, _ => rfl
 | 7, _ => rfl
 | 8, _ => rfl
 | 9, _ => rfl
 | 10, _ => rfl
theorem l13Shape_spec : ∀ (g : Gl) {v : Value}, RepV μ g.d v → g.d.wd → Gives Tryz.prog 109 [v] μ (.bool (decide g.Sh)) :=
 Gl.ind fun g ih v hv hw => by
  have w_ := Gl.inv hv
  obtain ⟨p, rfl, hts, hgs⟩ := w_
  have hn1 := maxLen_le hts.max
  have hn2 := maxLen_le hgs.max
  rw [Gl.d_eq] at hw
  have hs : g.name.size ≤ maxLen := hw.2.1
  have wt : D.wds (g.terms.map Tm.d) := hw.2.2.1
  have wg : D.wds (g.goals.map Gl.d) := hw.2.2.2.1
  have bad : ¬ TopOk g → Value.bool false = .bool (decide g.Sh) := fun h => isF fun k => h k.top
  refine Spec.mk Tryz.func109 (by kernel_rfl) ?_
  intro r
  refine cGv (l01In_spec _ _ _ _) ?_
  refine ifnd (fun h => rGv (bad fun T => h ⟨T.k0, T.k1⟩) rfl) (fun hk => ?_)
  refine ifnd (fun h9 => ifnd (fun hne => rGv (bad fun T => hne (T.nm h9)) rfl) (fun hnm => ?_)) (fun h9 => ?_)
  all_goals refine cGv (l02AllOk_spec hts wt) ?_
  all_goals refine ifnd (fun h => rGv (bad fun T => h T.tm) rfl) (fun htm => ?_)
  all_goals intro r2
  all_goals obtain ⟨k, hk'⟩ : ∃ k : Nat, g.kind = k := ⟨g.kind.toNat, by omega⟩
  all_goals refine rel_intro k hk' (by omega) (get_intro _ (kinds_at (by omega)) ?_)
  all_goals refine ifnd (fun hlen => rGv (bad fun T => hlen ?_) rfl) (fun hlen => ?_)
  any_goals (have e9 := T.ln9; have e2 := T.ln2; have e1 := T.ln1; have e0 := T.ln0; have := T.gl; omega)
  all_goals refine ifd (fun h4 => rGv (bad fun T => ?_) rfl) (fun h4 => ?_)
  any_goals (have e9 := T.ln9; have e2 := T.ln2; have e1 := T.ln1; have e0 := T.ln0; have := T.gl; omega)
  all_goals refine ifd (fun h7 => ifd (fun h0 => rGv (bad fun T => ?_) rfl) (fun h0 => ?_)) (fun h7 => ?_)
  any_goals (have e9 := T.gl0; omega)
  all_goals refine ifd (fun h8 => rGv (bad fun T => ?_) rfl) (fun h8 => ?_)
  any_goals (have e9 := T.gl; omega)
  all_goals refine lIn (fun i : Nat => i ≤ g.goals.length ∧ ∀ t ∈ g.goals.take i, t.Sh) (fun i => ⟨[(1, .loc 0 r 0), (61, .val (.slice p.2.1 g.goals.length p.2.2)), (62, .val (.int .i64 g.goals.length)), (63, .val (.int .i64 i))], [(0, some (.cells r [.val (.int .i64 g.kind), .val (.string g.name), .val (.slice p.1.1 g.terms.length p.1.2), .val (.slice p.2.1 g.goals.length p.2.2)] 30))], 2, μ, Mem.nil⟩) (fun i => g.goals.length - i) 0 ⟨by omega, by simp⟩ (fun i => ⟨rfl, rfl⟩) ⟨⟨rfl, rfl, rfl, rfl, trivial⟩, ⟨rfl, trivial⟩, rfl, rfl⟩ ?_
  all_goals rintro i ⟨hi, hall⟩
  all_goals refine ifd (fun h => ?_) (fun h => ?_)
  any_goals
   have w_ := aSo (l := g.goals) (i := i) (by omega)
   obtain ⟨t, ht⟩ := w_
   have w_ := Gl.elem hgs ht
   obtain ⟨ad, p, hel, hr⟩ := w_
   refine eIn hel ?_
   intro r3
   refine cGv (ih t (mAt ht) hr (D.wds_mem wg _ (mAt (at_map (f := Gl.d) ht)))) ?_
   refine ifnd (fun h => rGv (isF fun S => h (S.sub t (mAt ht))) rfl) (fun h => ?_)
   refine num64 (by omega) (by omega) ⟨i + 1, ⟨by omega, fun x hx => ?_⟩, by omega, ⟨⟨rfl, rfl, rfl, rfl, trivial⟩, ⟨rfl, trivial⟩, rfl, rfl⟩⟩
   rw [List.take_add_one, ht, Option.toList_some, List.mem_append, List.mem_singleton] at hx
   rcases hx with hx | rfl
   ·exact hall x hx
   ·exact h
  all_goals obtain rfl : i = g.goals.length := by omega
  all_goals rw [List.take_length] at hall
  all_goals
   have mk : (g.kind = 9 → IsRel g.name) → (g.kind = 10 → g.goals.length = 1) → (g.kind = 9 → g.goals.length = 0) → (g.kind = 6 → ∀ a, g.terms[0]? = some a → a.kind = 2) → (g.kind = 10 → ∀ b, g.goals[0]? = some b → b.kind = 9) → g.Sh := fun a b c d e =>
    .mk ⟨htm, by omega, by omega, by first | exact fun _ => hnm | exact fun h => absurd h9 h, a, by omega, by omega, by omega, by omega, by omega, by omega, b, d, e⟩ hall
  all_goals refine ifd (fun h6 => ?_) (fun h6 => ?_)
  any_goals
   have w_ := aSo (l := g.terms) (i := 0) (by omega)
   obtain ⟨a, ha⟩ := w_
   have w_ := Tm.elem hts ha
   obtain ⟨ad, p, hel, hr⟩ := w_
   refine eIn hel ?_
   exact rGv (isI ⟨fun hh => mk (by omega) (by omega) (by omega) (fun _ x hx => by rw [ha] at hx; cases hx; exact hh) (by omega), fun S => S.top.sy h6 a ha⟩) rfl
  all_goals refine ifd (fun h9 => ?_) (fun h9 => ?_)
  any_goals omega
  any_goals
   refine ifd (fun h0 => cGv (spec_IsRelName_spec _ hs _) (rGv (isI ⟨fun hh => mk (fun _ => hh) (by omega) (by omega) (by omega) (by omega), fun S => S.top.rel h9⟩) rfl)) (fun h0 => rGv (isF fun S => ?_) rfl)
   have := S.top.gl0; omega
  all_goals refine ifd (fun h10 => ?_) (fun h10 => rGv (isT (mk (by omega) (by omega) (by omega) (by omega) (by omega))) rfl)
  any_goals omega
  all_goals refine ifd (fun h1 => ?_) (fun h1 => rGv (isF fun S => h1 ?_) rfl)
  any_goals (have := S.top.gl1; omega)
  all_goals
   have w_ := aSo (l := g.goals) (i := 0) (by omega)
   obtain ⟨b, hb⟩ := w_
   have w_ := Gl.elem hgs hb
   obtain ⟨ad, p, hel, hr⟩ := w_
   refine eIn hel ?_
   exact rGv (isI ⟨fun hh => mk (by omega) (by omega) (by omega) (by omega) (fun _ x hx => by rw [hb] at hx; cases hx; exact hh), fun S => S.top.cl h10 b hb⟩) rfl
end
end Go.Vx
namespace Go.Vx
open Go.Proofs Classical
noncomputable def Gl.nodes (t : Gl) (room : Int) : Int := if t.Sh ∧ (t.cnt : Int) ≤ room then t.cnt else -1
theorem Gl.nodes_neg {t : Gl} {room : Int} (h : ¬ (t.Sh ∧ (t.cnt : Int) ≤ room)) : Value.int .i64 (-1) = .int .i64 (t.nodes room) := by rw [Gl.nodes, if_neg h]
theorem Gl.nodes_pos {t : Gl} {room : Int} (h : t.Sh) (h2 : (t.cnt : Int) ≤ room) : t.nodes room = t.cnt := by rw [Gl.nodes, if_pos ⟨h, h2⟩]
theorem Gl.nodes_lt {t : Gl} {room : Int} (h : t.nodes room < 0) : ¬ (t.Sh ∧ (t.cnt : Int) ≤ room) := fun k => by rw [Gl.nodes, if_pos k] at h; omega
theorem Gl.nodes_ge {t : Gl} {room : Int} (h : ¬ t.nodes room < 0) : t.Sh ∧ (t.cnt : Int) ≤ room ∧ t.nodes room = t.cnt := by
 by_cases k : t.Sh ∧ (t.cnt : Int) ≤ room
 ·exact ⟨k.1, k.2, by rw [Gl.nodes, if_pos k]⟩
 ·rw [Gl.nodes, if_neg k] at h; omega
noncomputable def kmap : List (Value × Value) := mset (mset (mset (mset (mset [] (.int .i64 2) (.int .i64 2)) (.int .i64 3) (.int .i64 2)) (.int .i64 4) (.int .i64 1)) (.int .i64 5) (.int .i64 1)) (.int .i64 6) (.int .i64 2)
theorem kmap_get (k : Int) : mget kmap (.int .i64 k) = if k = 6 then some (.int .i64 2) else if k = 5 then some (.int .i64 1) else if k = 4 then some (.int .i64 1) else if k = 3 then some (.int .i64 2) else if k = 2 then some (.int .i64 2) else none := by
 unfold kmap
 rw [mget_int, mget_int, mget_int, mget_int, mget_int]
 rfl
section
variable {μ : Mem}
theorem spec_GoalOk_spec (g : Gl) {v : Value} (hv : RepV μ g.d v) (hw : g.d.wd) : Gives Tryz.prog 48 [v] μ (.bool (decide g.Ok)) := by
 have w_ := Gl.invV hv
 obtain ⟨p, rfl⟩ := w_
 refine Spec.mk Tryz.func48 (by kernel_rfl) ?_
 intro r
 refine cGv (l13Count_spec g hv (by decide) (by decide)) ?_
 refine ifd (fun h => ?_) (fun h => rGv (isF fun hh => ?_) rfl)
 ·refine cGv (l13Shape_spec g hv hw) (rGv (isI ⟨fun hh => ⟨hh, ?_⟩, fun hh => hh.1⟩) rfl)
  unfold upTo at h; omega
 ·have := hh.2; unfold upTo at h; omega
theorem goalNodes_spec : ∀ (g : Gl) {v : Value} {room : Int}, RepV μ g.d v → -1000000000000 ≤ room → room ≤ 1000000000000 → Gives Tryz.prog 116 [v, .int .i64 room] μ (.int .i64 (g.nodes room)) :=
 Gl.ind fun g ih v room hv hr1 hr2 => by
  have w_ := Gl.inv hv
  obtain ⟨p, rfl, hts, hgs⟩ := w_
  have hn1 := maxLen_le hts.max
  have hn2 := maxLen_le hgs.max
  have hpos := g.cnt_pos
  have hce := g.cnt_eq1
  have bad : ¬ TopOk g → Value.int .i64 (-1) = .int .i64 (g.nodes room) := fun h => Gl.nodes_neg fun k => h k.1.top
  refine Spec.mkO [18] Tryz.func116 (by kernel_rfl) ?_
  intro r
  refine ifd (fun h => rGv (Gl.nodes_neg fun k => by omega) rfl) (fun h1 => ?_)
  refine cGv (termsOk_spec hts) ?_
  refine ifnd (fun h => rGv (bad fun T => h T.tm) rfl) (fun htm => ?_)
  intro rM hmM hoM
  have k0 : MapOk IntKey [] := MapOk.nil
  have k1 := k0.int (n := 2) (.int .i64 2)
  have k2 := k1.int (n := 3) (.int .i64 2)
  have k3 := k2.int (n := 4) (.int .i64 1)
  have k4 := k3.int (n := 5) (.int .i64 1)
  have k5 := k4.int (n := 6) (.int .i64 2)
  refine upd_intro _ (Mem.set_at _ _ _) (k0.weaken (by rintro _ ⟨n, rfl⟩; rfl)) rfl ?_
  refine upd_intro _ (Mem.set_at _ _ _) (k1.weaken (by rintro _ ⟨n, rfl⟩; rfl)) rfl ?_
  refine upd_intro _ (Mem.set_at _ _ _) (k2.weaken (by rintro _ ⟨n, rfl⟩; rfl)) rfl ?_
  refine upd_intro _ (Mem.set_at _ _ _) (k3.weaken (by rintro _ ⟨n, rfl⟩; rfl)) rfl ?_
  refine upd_intro _ (Mem.set_at _ _ _) (k4.weaken (by rintro _ ⟨n, rfl⟩; rfl)) rfl ?_
  generalize hh : Mem.set (Mem.set (Mem.set (Mem.set (Mem.set (Mem.set _ rM _) rM _) rM _) rM _) rM _) rM _ = h0
  have hm : h0 rM = some (mapO kmap) := by subst hh; exact Mem.set_at _ _ _
  clear hh hmM hoM
  have one : TopOk g → g.goals.length = 0 → Value.int .i64 1 = .int .i64 (g.nodes room) := fun T h => by
   have e : g.goals = [] := List.eq_nil_of_length_eq_zero h
   have hc : g.cnt = 1 := by rw [hce, e]; rfl
   rw [Gl.nodes_pos (.mk T (by rw [e]; simp)) (by omega), hc]; rfl
  have htm : ∀ t ∈ g.terms, t.Ok := htm
  rcases (by omega : g.kind = 6 ∨ g.kind = 5 ∨ g.kind = 4 ∨ g.kind = 3 ∨ g.kind = 2 ∨ ¬ (2 ≤ g.kind ∧ g.kind ≤ 6)) with e | e | e | e | e | e
  ·refine look_intro kmap (some (.int .i64 2)) hm (k5.weaken (by rintro _ ⟨n, rfl⟩; rfl)) rfl (by rw [kmap_get]; simp [e]) ?_
   repeat (refine ifd (fun h => ?_) (fun h => ?_) <;> try (exfalso; omega))
   refine ifnd (fun h => rGv (bad fun T => h (T.nm (by omega))) rfl) (fun hnm => ?_)
   refine ifnd (fun h => rGv (bad fun T => h (by have := T.gl0; omega)) rfl) (fun hg0 => ?_)
   refine ifnd (fun h => rGv (bad fun T => h (by have := T.ln2; omega)) rfl) (fun hl => ?_)
   refine ifd (fun _ => ?_) (fun h => absurd e h)
   have w_ := aSo (l := g.terms) (i := 0) (by omega)
   obtain ⟨a, ha⟩ := w_
   have w_ := Tm.elem hts ha
   obtain ⟨ad, p, hel, hr⟩ := w_
   refine eIn hel ?_
   refine ifnd (fun h => rGv (bad fun T => h (T.sy e a ha)) rfl) (fun h => ?_)
   exact rGv (one ⟨htm, by omega, by omega, fun _ => hnm, by omega, by omega, by omega, by omega, by omega, by omega, by omega, by omega, fun _ x hx => by rw [ha] at hx; cases hx; exact h, by omega⟩ (by omega)) rfl
  ·refine look_intro kmap (some (.int .i64 1)) hm (k5.weaken (by rintro _ ⟨n, rfl⟩; rfl)) rfl (by rw [kmap_get]; simp [e]) ?_
   repeat (refine ifd (fun h => ?_) (fun h => ?_) <;> try (exfalso; omega))
   refine ifnd (fun h => rGv (bad fun T => h (T.nm (by omega))) rfl) (fun hnm => ?_)
   refine ifnd (fun h => rGv (bad fun T => h (by have := T.gl0; omega)) rfl) (fun hg0 => ?_)
   refine ifnd (fun h => rGv (bad fun T => h (by have := T.ln1; omega)) rfl) (fun hl => ?_)
   refine ifd (fun h => by omega) (fun h => ?_)
   exact rGv (one ⟨htm, by omega, by omega, fun _ => hnm, by omega, by omega, by omega, by omega, by omega, by omega, by omega, by omega, by omega, by omega⟩ (by omega)) rfl
  ·refine look_intro kmap (some (.int .i64 1)) hm (k5.weaken (by rintro _ ⟨n, rfl⟩; rfl)) rfl (by rw [kmap_get]; simp [e]) ?_
   repeat (refine ifd (fun h => ?_) (fun h => ?_) <;> try (exfalso; omega))
   refine ifnd (fun h => rGv (bad fun T => h (T.nm (by omega))) rfl) (fun hnm => ?_)
   refine ifnd (fun h => rGv (bad fun T => h (by have := T.gl0; omega)) rfl) (fun hg0 => ?_)
   refine ifnd (fun h => rGv (bad fun T => h (by have := T.ln1; omega)) rfl) (fun hl => ?_)
   refine ifd (fun h => by omega) (fun h => ?_)
   exact rGv (one ⟨htm, by omega, by omega, fun _ => hnm, by omega, by omega, by omega, by omega, by omega, by omega, by omega, by omega, by omega, by omega⟩ (by omega)) rfl
  ·refine look_intro kmap (some (.int .i64 2)) hm (k5.weaken (by rintro _ ⟨n, rfl⟩; rfl)) rfl (by rw [kmap_get]; simp [e]) ?_
   repeat (refine ifd (fun h => ?_) (fun h => ?_) <;> try (exfalso; omega))
   refine ifnd (fun h => rGv (bad fun T => h (T.nm (by omega))) rfl) (fun hnm => ?_)
   refine ifnd (fun h => rGv (bad fun T => h (by have := T.gl0; omega)) rfl) (fun hg0 => ?_)
   refine ifnd (fun h => rGv (bad fun T => h (by have := T.ln2; omega)) rfl) (fun hl => ?_)
   refine ifd (fun h => by omega) (fun h => ?_)
   exact rGv (one ⟨htm, by omega, by omega, fun _ => hnm, by omega, by omega, by omega, by omega, by omega, by omega, by omega, by omega, by omega, by omega⟩ (by omega)) rfl
  ·refine look_intro kmap (some (.int .i64 2)) hm (k5.weaken (by rintro _ ⟨n, rfl⟩; rfl)) rfl (by rw [kmap_get]; simp [e]) ?_
   repeat (refine ifd (fun h => ?_) (fun h => ?_) <;> try (exfalso; omega))
   refine ifnd (fun h => rGv (bad fun T => h (T.nm (by omega))) rfl) (fun hnm => ?_)
   refine ifnd (fun h => rGv (bad fun T => h (by have := T.gl0; omega)) rfl) (fun hg0 => ?_)
   refine ifnd (fun h => rGv (bad fun T => h (by have := T.ln2; omega)) rfl) (fun hl => ?_)
   refine ifd (fun h => by omega) (fun h => ?_)
   exact rGv (one ⟨htm, by omega, by omega, fun _ => hnm, by omega, by omega, by omega, by omega, by omega, by omega, by omega, by omega, by omega, by omega⟩ (by omega)) rfl
  ·refine look_intro kmap none hm (k5.weaken (by rintro _ ⟨n, rfl⟩; rfl)) rfl (by rw [kmap_get, if_neg (by omega), if_neg (by omega), if_neg (by omega), if_neg (by omega), if_neg (by omega)]) ?_
   by_cases e2 : g.kind = 0 ∨ g.kind = 1
   ·repeat' (refine ifd (fun h => ?_) (fun h => ?_) <;> try (exfalso; omega))
    all_goals
     refine ifnd (fun h => rGv (bad fun T => h (T.nm (by omega))) rfl) (fun hnm => ?_)
     refine ifnd (fun h => rGv (bad fun T => h (by have := T.gl0; omega)) rfl) (fun hg0 => ?_)
     refine ifnd (fun h => rGv (bad fun T => h (by have := T.ln0; omega)) rfl) (fun hl => ?_)
     refine ifd (fun h => by omega) (fun h => ?_)
     exact rGv (one ⟨htm, by omega, by omega, fun _ => hnm, by omega, by omega, by omega, by omega, by omega, by omega, by omega, by omega, by omega, by omega⟩ (by omega)) rfl
   ·by_cases e9 : g.kind = 9
    ·repeat (refine ifd (fun h => ?_) (fun h => ?_) <;> try (exfalso; omega))
     refine cGv (impl_IsRelName_spec _ _) ?_
     refine ifnd (fun h => rGv (bad fun T => h (T.rel e9)) rfl) (fun hnm => ?_)
     refine ifnd (fun h => rGv (bad fun T => h (by have := T.gl0; omega)) rfl) (fun hg0 => ?_)
     refine ifd (fun h => rGv (bad fun T => by have := T.ln9; omega) rfl) (fun hl => ?_)
     exact rGv (one ⟨htm, by omega, by omega, by omega, fun _ => hnm, by omega, by omega, by omega, by omega, by omega, by omega, by omega, by omega, by omega⟩ (by omega)) rfl
    ·by_cases e3 : g.kind = 7 ∨ g.kind = 8 ∨ g.kind = 10
     ·have fin : ∀ k : Int, k = 1 + (Gl.cnts g.goals : Nat) → TopOk g → (∀ x ∈ g.goals, x.Sh) → k ≤ room → Value.int .i64 k = .int .i64 (g.nodes room) := fun k hk T hS hr => by
       rw [Gl.nodes_pos (.mk T hS) (by omega), hce, hk]; congr 1
      have top : g.name = ⟨#[]⟩ → g.terms.length = 0 → g.goals.length ≤ 8 → (g.kind = 10 → g.goals.length = 1) → (g.kind = 10 → ∀ b, g.goals[0]? = some b → b.kind = 9) → TopOk g := fun a b c d f =>
       ⟨htm, by omega, by omega, fun _ => a, by omega, by omega, by omega, by omega, by omega, c, by omega, d, by omega, f⟩
      repeat' (refine ifd (fun h => ?_) (fun h => ?_) <;> try (exfalso; omega))
      ·refine ifnd (fun h => rGv (bad fun T => h (T.nm (by omega))) rfl) (fun hnm => ?_)
       refine ifnd (fun h => rGv (bad fun T => h (by have := T.ln0; omega)) rfl) (fun hl => ?_)
       refine ifd (fun h => rGv (bad fun T => by have := T.gl; omega) rfl) (fun h8 => ?_)
       have T := top hnm (by omega) (by omega) (by omega) (by omega)
       refine lIn (fun i : Nat => i ≤ g.goals.length ∧ (∀ x ∈ g.goals.take i, x.Sh) ∧ 1 + (Gl.cnts (g.goals.take i) : Int) ≤ room) (fun i => ⟨[(1, .val (.int .i64 room)), (6, .val (.int .i64 (1 + (Gl.cnts (g.goals.take i) : Int)))), (124, .val (.slice p.2.1 g.goals.length p.2.2)), (125, .val (.int .i64 g.goals.length)), (126, .val (.int .i64 i))], [], 1, μ, h0⟩) (fun i => g.goals.length - i)
        0 ⟨by omega, by simp, by simp [Gl.cnts]; omega⟩ (fun i => ⟨rfl, rfl⟩) ⟨⟨rfl, rfl, rfl, rfl, rfl, trivial⟩, trivial, rfl, rfl⟩ ?_
       rintro i ⟨hi, hall, hle⟩
       refine ifd (fun h => ?_) (fun h => ?_)
       ·have w_ := aSo (l := g.goals) (i := i) (by omega)
        obtain ⟨t, ht⟩ := w_
        have hc := Gl.cnts_take ht
        have hc' := Gl.cnts_le g.goals (i + 1)
        have w_ := Gl.elem hgs ht
        obtain ⟨ad, p3, hel, hr⟩ := w_
        refine eIn hel ?_
        intro r2
        refine num64 (by omega) (by omega) ?_
        refine cGv (ih t (mAt ht) hr (by omega) (by omega)) ?_
        refine ifd (fun h => rGv (Gl.nodes_neg fun k => Gl.nodes_lt h ⟨k.1.sub t (mAt ht), by omega⟩) rfl) (fun h => ?_)
        have w_ := Gl.nodes_ge h
        obtain ⟨hS, hcnt, he⟩ := w_
        refine nEq (x := 1 + (Gl.cnts (g.goals.take (i + 1)) : Int)) (by rw [he, wrap64 (by omega) (by omega), hc]; omega) ?_
        refine num64 (by omega) (by omega) ⟨i + 1, ⟨by omega, fun x hx => ?_, by omega⟩, by omega, ⟨⟨rfl, rfl, rfl, rfl, rfl, trivial⟩, trivial, rfl, rfl⟩⟩
        rw [List.take_add_one, ht, Option.toList_some, List.mem_append, List.mem_singleton] at hx
        rcases hx with hx | rfl
        ·exact hall x hx
        ·exact hS
       ·obtain rfl : i = g.goals.length := by omega
        rw [List.take_length] at hall hle
        exact rGv (fin _ (by rw [List.take_length]) T hall (by rw [List.take_length]; exact hle)) rfl
      ·refine ifnd (fun h => rGv (bad fun T => h (T.nm (by omega))) rfl) (fun hnm => ?_)
       refine ifnd (fun h => rGv (bad fun T => h (by have := T.ln0; omega)) rfl) (fun hl => ?_)
       refine ifd (fun h => rGv (bad fun T => by have := T.gl; omega) rfl) (fun h8 => ?_)
       have T := top hnm (by omega) (by omega) (by omega) (by omega)
       refine lIn (fun i : Nat => i ≤ g.goals.length ∧ (∀ x ∈ g.goals.take i, x.Sh) ∧ 1 + (Gl.cnts (g.goals.take i) : Int) ≤ room) (fun i => ⟨[(1, .val (.int .i64 room)), (6, .val (.int .i64 (1 + (Gl.cnts (g.goals.take i) : Int)))), (124, .val (.slice p.2.1 g.goals.length p.2.2)), (125, .val (.int .i64 g.goals.length)), (126, .val (.int .i64 i))], [], 1, μ, h0⟩) (fun i => g.goals.length - i)
        0 ⟨by omega, by simp, by simp [Gl.cnts]; omega⟩ (fun i => ⟨rfl, rfl⟩) ⟨⟨rfl, rfl, rfl, rfl, rfl, trivial⟩, trivial, rfl, rfl⟩ ?_
       rintro i ⟨hi, hall, hle⟩
       refine ifd (fun h => ?_) (fun h => ?_)
       ·have w_ := aSo (l := g.goals) (i := i) (by omega)
        obtain ⟨t, ht⟩ := w_
        have hc := Gl.cnts_take ht
        have hc' := Gl.cnts_le g.goals (i + 1)
        have w_ := Gl.elem hgs ht
        obtain ⟨ad, p3, hel, hr⟩ := w_
        refine eIn hel ?_
        intro r2
        refine num64 (by omega) (by omega) ?_
        refine cGv (ih t (mAt ht) hr (by omega) (by omega)) ?_
        refine ifd (fun h => rGv (Gl.nodes_neg fun k => Gl.nodes_lt h ⟨k.1.sub t (mAt ht), by omega⟩) rfl) (fun h => ?_)
        have w_ := Gl.nodes_ge h
        obtain ⟨hS, hcnt, he⟩ := w_
        refine nEq (x := 1 + (Gl.cnts (g.goals.take (i + 1)) : Int)) (by rw [he, wrap64 (by omega) (by omega), hc]; omega) ?_
        refine num64 (by omega) (by omega) ⟨i + 1, ⟨by omega, fun x hx => ?_, by omega⟩, by omega, ⟨⟨rfl, rfl, rfl, rfl, rfl, trivial⟩, trivial, rfl, rfl⟩⟩
        rw [List.take_add_one, ht, Option.toList_some, List.mem_append, List.mem_singleton] at hx
        rcases hx with hx | rfl
        ·exact hall x hx
        ·exact hS
       ·obtain rfl : i = g.goals.length := by omega
        rw [List.take_length] at hall hle
        exact rGv (fin _ (by rw [List.take_length]) T hall (by rw [List.take_length]; exact hle)) rfl
      ·refine ifnd (fun h => rGv (bad fun T => h (T.nm (by omega))) rfl) (fun hnm => ?_)
       refine ifnd (fun h => rGv (bad fun T => h (by have := T.ln0; omega)) rfl) (fun hl => ?_)
       refine ifnd (fun h => rGv (bad fun T => h (by have := T.gl1; omega)) rfl) (fun hg1 => ?_)
       have w_ := aSo (l := g.goals) (i := 0) (by omega)
       obtain ⟨b, hb⟩ := w_
       have w_ := Gl.elem hgs hb
       obtain ⟨ad, p2, hel, hr⟩ := w_
       refine eIn hel ?_
       refine ifnd (fun h => rGv (bad fun T => h (T.cl (by omega) b hb)) rfl) (fun hb9 => ?_)
       have T := top hnm (by omega) (by omega) (by omega) (fun _ x hx => by rw [hb] at hx; cases hx; exact hb9)
       refine lIn (fun i : Nat => i ≤ g.goals.length ∧ (∀ x ∈ g.goals.take i, x.Sh) ∧ 1 + (Gl.cnts (g.goals.take i) : Int) ≤ room) (fun i => ⟨[(1, .val (.int .i64 room)), (6, .val (.int .i64 (1 + (Gl.cnts (g.goals.take i) : Int)))), (124, .val (.slice p.2.1 g.goals.length p.2.2)), (125, .val (.int .i64 g.goals.length)), (126, .val (.int .i64 i))], [], 1, μ, h0⟩) (fun i => g.goals.length - i)
        0 ⟨by omega, by simp, by simp [Gl.cnts]; omega⟩ (fun i => ⟨rfl, rfl⟩) ⟨⟨rfl, rfl, rfl, rfl, rfl, trivial⟩, trivial, rfl, rfl⟩ ?_
       rintro i ⟨hi, hall, hle⟩
       refine ifd (fun h => ?_) (fun h => ?_)
       ·have w_ := aSo (l := g.goals) (i := i) (by omega)
        obtain ⟨t, ht⟩ := w_
        have hc := Gl.cnts_take ht
        have hc' := Gl.cnts_le g.goals (i + 1)
        have w_ := Gl.elem hgs ht
        obtain ⟨ad, p3, hel, hr⟩ := w_
        refine eIn hel ?_
        intro r2
        refine num64 (by omega) (by omega) ?_
        refine cGv (ih t (mAt ht) hr (by omega) (by omega)) ?_
        refine ifd (fun h => rGv (Gl.nodes_neg fun k => Gl.nodes_lt h ⟨k.1.sub t (mAt ht), by omega⟩) rfl) (fun h => ?_)
        have w_ := Gl.nodes_ge h
        obtain ⟨hS, hcnt, he⟩ := w_
        refine nEq (x := 1 + (Gl.cnts (g.goals.take (i + 1)) : Int)) (by rw [he, wrap64 (by omega) (by omega), hc]; omega) ?_
        refine num64 (by omega) (by omega) ⟨i + 1, ⟨by omega, fun x hx => ?_, by omega⟩, by omega, ⟨⟨rfl, rfl, rfl, rfl, rfl, trivial⟩, trivial, rfl, rfl⟩⟩
        rw [List.take_add_one, ht, Option.toList_some, List.mem_append, List.mem_singleton] at hx
        rcases hx with hx | rfl
        ·exact hall x hx
        ·exact hS
       ·obtain rfl : i = g.goals.length := by omega
        rw [List.take_length] at hall hle
        exact rGv (fin _ (by rw [List.take_length]) T hall (by rw [List.take_length]; exact hle)) rfl
     ·repeat (refine ifd (fun h => ?_) (fun h => ?_) <;> try (exfalso; omega))
      exact rGv (bad fun T => by have := T.k0; have := T.k1; omega) rfl
theorem impl_GoalOk_spec (g : Gl) {v : Value} (hv : RepV μ g.d v) : Gives Tryz.prog 52 [v] μ (.bool (decide g.Ok)) := by
 have w_ := Gl.invV hv
 obtain ⟨p, rfl⟩ := w_
 refine Spec.mk Tryz.func52 (by kernel_rfl) ?_
 intro r
 refine cGv (goalNodes_spec g hv (by decide) (by decide)) (rGv (isI ⟨fun hh => ?_, fun hh => ?_⟩) rfl)
 ·have w_ := Gl.nodes_ge (by omega : ¬ g.nodes 80 < 0)
  obtain ⟨h1, h2, _⟩ := w_
  exact ⟨h1, by omega⟩
 ·rw [Gl.nodes_pos hh.1 (by have := hh.2; omega)]
  have := g.cnt_pos; omega
end
end Go.Vx
namespace Go.Vx
open Go.Proofs Classical
section
variable {μ : Mem}
theorem l02CopyAll_spec {xs : List T} {base : Option Addr} {cap : Nat} (hsl : Sl μ 4 base xs.length ((xs.map T.tm).map Tm.d)) (hn : xs.length ≤ 10000000) :
  Spec Tryz.prog 110 [.slice base xs.length cap] μ fun v μ' => RepV μ' (.sl 4 ((xs.map T.tm).map Tm.d)) v := by
 refine Spec.mk Tryz.func110 (by kernel_rfl) ?_
 intro r6
 refine lIn (fun p : Nat × Option Nat × Nat × List Value × Mem => p.1 ≤ xs.length ∧ μ.Le p.2.2.2.2 ∧ Rows p.2.2.2.2 4 (((xs.take p.1).map T.tm).map Tm.d) p.2.2.2.1)
  (fun (i, b, c, ys, μ') => ⟨[(3, .row 0 b ys.length c), (7, .val (.slice base xs.length cap)), (8, .val (.int .i64 xs.length)), (9, .val (.int .i64 i))], [(0, some (.row b c 50 4 ys))], 1, μ', Mem.nil⟩) (fun p => xs.length - p.1)
  (0, some r6, 0, [], μ) ⟨by simp, Mem.Le.refl _, .nil⟩ (fun (_, _, _, _, _) => ⟨rfl, rfl⟩) ⟨⟨rfl, rfl, rfl, rfl, trivial⟩, ⟨rfl, trivial⟩, rfl, rfl⟩ ?_
 rintro ⟨i, b, c, ys, μ'⟩ ⟨hi, hle, hrows⟩
 dsimp only at hi hle hrows
 have hlen := hrows.len
 simp only [List.length_map, List.length_take] at hlen
 refine ifd (fun h => ?_) (fun h => ?_)
 ·have w_ := aSo (l := xs) (i := i) (by omega)
  obtain ⟨x, hx'⟩ := w_
  have w_ := Tm.elem (i := i) (t := x.tm) (hsl.mono hle) (by simp [hx'])
  obtain ⟨ad, p, hel, hto⟩ := w_
  refine eIn hel ?_
  intro r
  refine cPl (l02Copy_spec _ hto) fun v4 μ4 hle4 hR4 => ?_
  have w_ := Tm.invV hR4
  obtain ⟨q, rfl⟩ := w_
  intro r5
  refine gIn ?_ ?_ fun b' c' _ => ?_
  ·show (ys.length + 1) * 56 ≤ _; omega
  ·exact Nat.le_trans (m := 100000000) (show ys.length + 1 ≤ _ by omega) (by decide)
  refine num64 (by omega) (by omega) ⟨(i + 1, b', c', _, μ4), ⟨by dsimp only; omega, hle.trans hle4, ?_⟩, by dsimp only; omega, ⟨⟨rfl, rfl, rfl, rfl, trivial⟩, ⟨rfl, trivial⟩, rfl, rfl⟩⟩
  dsimp only
  rw [List.take_add_one, hx', Option.toList_some]
  simp only [List.map_append, List.map_cons, List.map_nil]
  exact (hrows.mono hle4).append (Rows.one hR4 (Tm.d_n _))
 ·obtain rfl : i = xs.length := by omega
  rw [List.take_length] at hrows
  refine rFz [0] fun μ' hle' hno hrow => .inl ?_
  exact Rows.sl hrow (hrows.mono hle') (Nat.le_trans (m := 100000000) (by omega) (by decide))
theorem RepS.cons1 {d : D} {r : List D} {v : Value} {cs : List Value} (k1 : Rep μ d [v]) (k2 : RepS μ r cs) : RepS μ (d :: r) (v :: cs) := ⟨[v], cs, rfl, k1, k2⟩
theorem l13Copy_spec : ∀ (g : Gl) {μ : Mem} {v : Value}, RepV μ g.d v → g.Sh → Spec Tryz.prog 49 [v] μ fun v μ' => RepV μ' g.d v :=
 Gl.ind fun g ih μ v hv hS => by
  have w_ := Gl.inv hv
  obtain ⟨p, rfl, hts, hgs⟩ := w_
  have w_ := lift_ok hS.top.tm
  obtain ⟨xs, hxs, hok⟩ := w_
  have hg8 := hS.top.gl
  have hx4 : xs.length ≤ 4 := by
   have T := hS.top
   have e9 := T.ln9; have e2 := T.ln2; have e1 := T.ln1; have e0 := T.ln0; have k0 := T.k0; have k1 := T.k1
   have : g.terms.length = xs.length := by rw [hxs, List.length_map]
   omega
  rw [hxs, List.length_map] at hts ⊢
  refine Spec.mk Tryz.func49 (by kernel_rfl) ?_
  intro r1 r2
  refine cPl (l02CopyAll_spec hts (by omega)) fun v1 μ1 hle1 hR1 => ?_
  have w_ := Rep.sl hR1
  obtain ⟨b1, c1, rfl, hs1⟩ := w_
  intro r3
  have hgs1 := hgs.mono hle1
  refine loop_nil (fun p : Nat × Option Nat × Nat × List Value × Mem => p.1 ≤ g.goals.length ∧ μ1.Le p.2.2.2.2 ∧ Rows p.2.2.2.2 4 ((g.goals.take p.1).map Gl.d) p.2.2.2.1)
   (fun (i, b, c, ys, μ') => ⟨[(2, .loc 1 r2 0), (3, .loc 2 r3 0), (15, .val (.slice p.2.1 g.goals.length p.2.2)), (16, .val (.int .i64 g.goals.length)), (17, .val (.int .i64 i))],
    [(1, some (.cells r2 [.val (.int .i64 0), .val (.string ⟨#[]⟩), .val (.slice none 0 0), .val (.slice none 0 0)] 30)), (2, some (.cells r3 [.val (.int .i64 g.kind), .val (.string g.name), .val (.slice b1 ((xs.map T.tm).map Tm.d).length c1), .row 3 b ys.length c] 30)), (3, some (.row b c 30 4 ys))], 4, μ', Mem.nil⟩) (fun p => g.goals.length - p.1)
   (0, none, 0, [], μ1) ⟨by simp, Mem.Le.refl _, .nil⟩ (fun (_, _, _, _, _) => ⟨rfl, rfl⟩) ⟨⟨⟨_, rfl, .inl rfl⟩, ⟨_, rfl, .inl rfl⟩, ⟨_, rfl, .inl rfl⟩, ⟨_, rfl, .inl rfl⟩, ⟨_, rfl, .inl rfl⟩, trivial⟩, ⟨.inl rfl, .inr (.inr ⟨_, _, _, _, rfl, rfl, .inl rfl, .inl rfl, .inl rfl, .inr ⟨3, rfl, rfl, Nat.le_refl _⟩, trivial⟩), .inr (.inl ⟨_, _, rfl, Nat.le_refl _⟩), trivial⟩, rfl, rfl⟩ ?_
  rintro ⟨i, b, c, ys, μ'⟩ ⟨hi, hle, hrows⟩
  dsimp only at hi hle hrows
  have hlen := hrows.len
  simp only [List.length_map, List.length_take] at hlen
  refine ifd (fun h => ?_) (fun h => ?_)
  ·have w_ := aSo (l := g.goals) (i := i) (by omega)
   obtain ⟨t, ht⟩ := w_
   have w_ := Gl.elem (hgs1.mono hle) ht
   obtain ⟨ad, p3, hel, hr⟩ := w_
   refine eIn hel ?_
   intro r4
   refine cPl (ih t (mAt ht) hr (hS.sub t (mAt ht))) fun v' μ'' hle2 hR => ?_
   have w_ := Gl.invV hR
   obtain ⟨q, rfl⟩ := w_
   intro r5
   refine gIn ?_ ?_ fun b' c' _ => ?_
   ·show (ys.length + 1) * 72 ≤ _; omega
   ·exact Nat.le_trans (m := 100000000) (show ys.length + 1 ≤ _ by omega) (by decide)
   have hsucc : (g.goals.take (i + 1)).map Gl.d = (g.goals.take i).map Gl.d ++ [t.d] := by
    rw [List.take_add_one, ht, Option.toList_some]; simp
   exact num64 (by omega) (by omega) ⟨(i + 1, b', c', _, μ''), ⟨by dsimp only; omega, hle.trans hle2, by rw [hsucc]; exact (hrows.mono hle2).append (Rows.one hR (Gl.d_n _))⟩, by dsimp only; omega, ⟨⟨rfl, rfl, rfl, rfl, rfl, trivial⟩, ⟨rfl, rfl, rfl, trivial⟩, rfl, rfl⟩⟩
  ·obtain rfl : i = g.goals.length := by omega
   rw [List.take_length] at hrows
   refine rFz [3] fun μ2 hle2 hno hrow => .inl ?_
   rw [Gl.d_eq, hxs]
   exact ⟨_, rfl, RepS.int (RepS.str (RepS.cons1 ((hR1.mono hle).mono hle2) (RepS.last (Rows.sl hrow (hrows.mono hle2) (Nat.le_trans (m := 100000000) (by omega) (by decide))))))⟩
end
end Go.Vx
namespace Go.Vx
open Go.Proofs Classical
mutual
noncomputable def Gl.put (f : Int → Option T) : Gl → Gl
 | .mk k s ts gs => .mk k s (ts.map fun t => (t.toT.subst f).tm) (Gl.puts f gs)
noncomputable def Gl.puts (f : Int → Option T) : List Gl → List Gl
 | [] => []
 | g :: r => g.put f :: Gl.puts f r
end
theorem Gl.puts_map (f : Int → Option T) : ∀ l : List Gl, Gl.puts f l = l.map (Gl.put f)
 | [] => rfl
 | t :: r => by simp [Gl.puts, Gl.puts_map f r]
theorem Gl.put_kind (f : Int → Option T) (g : Gl) : (g.put f).kind = g.kind := by cases g; rfl
theorem Gl.put_name (f : Int → Option T) (g : Gl) : (g.put f).name = g.name := by cases g; rfl
theorem Gl.put_terms (f : Int → Option T) (g : Gl) : (g.put f).terms = g.terms.map fun t => (t.toT.subst f).tm := by cases g; rfl
theorem Gl.put_goals (f : Int → Option T) (g : Gl) : (g.put f).goals = g.goals.map (Gl.put f) := by cases g; rw [Gl.put]; exact Gl.puts_map f _
mutual
noncomputable def Gl.withO (F : T → Option T) : Gl → Option Gl
 | .mk k s ts gs => match (ts.map Tm.toT).mapM F with
  | none => none
  | some xs => match Gl.withOs F gs with
   | none => none
   | some gs' => some (.mk k s (xs.map T.tm) gs')
noncomputable def Gl.withOs (F : T → Option T) : List Gl → Option (List Gl)
 | [] => some []
 | g :: r => match g.withO F with
  | none => none
  | some y => match Gl.withOs F r with
   | none => none
   | some ys => some (y :: ys)
end
theorem Gl.withOs_map (F : T → Option T) : ∀ l : List Gl, Gl.withOs F l = l.mapM (Gl.withO F)
 | [] => rfl
 | t :: r => by
  simp only [Gl.withOs, List.mapM_cons, Gl.withOs_map F r, bind, pure]
  cases t.withO F with
  | none => rfl
  | some y => cases r.mapM (Gl.withO F) <;> rfl
theorem Gl.withO_eq (F : T → Option T) (g : Gl) : g.withO F = match (g.terms.map Tm.toT).mapM F with
  | none => none
  | some xs => match g.goals.mapM (Gl.withO F) with
   | none => none
   | some gs' => some (.mk g.kind g.name (xs.map T.tm) gs') := by
 cases g
 rw [Gl.withO, Gl.withOs_map]
 rfl
theorem mapM_all {α β : Type} {f : α → Option β} {h : α → β} : ∀ {l : List α}, (∀ x ∈ l, f x = some (h x)) → l.mapM f = some (l.map h)
 | [], _ => by simp
 | x :: l, k => by
  rw [List.mapM_cons, k x (by simp), mapM_all fun y hy => k y (by simp [hy])]
  rfl
theorem toTs_tm {xs : List T} : (xs.map T.tm).map Tm.toT = xs := by
 rw [List.map_map]
 exact (List.map_congr_left fun x _ => T.toT_tm x).trans (List.map_id _)
def optG (P : Gl → Value → Prop) (o : Option Gl) (v : Value) : Prop := match o with
 | some y => ∃ tv, v = .tuple #[tv, .bool true] ∧ P y tv
 | none => v = .tuple #[.agg #[.int .i64 0, .string ⟨#[]⟩, .slice none 0 0, .slice none 0 0], .bool false]
section
variable {μ : Mem}
theorem Gl.put_Sh_wd {g : Gl} {f : Int → Option T} (hf : ∀ n y, f n = some y → y.good) : g.Sh → (g.put f).d.wd := fun h => by
 revert h
 refine Gl.ind (q := fun g => g.Sh → (g.put f).d.wd) (fun g ih h => ?_) g
 have w_ := lift_ok h.top.tm
 obtain ⟨xs, hxs, hok⟩ := w_
 have hk0 := h.top.k0
 have hk1 := h.top.k1
 have hnm : g.name.size ≤ maxLen := by
  by_cases h9 : g.kind = 9
  ·exact Nat.le_trans (h.top.rel h9).2.2.1 (by decide)
  ·rw [h.top.nm h9]; exact Nat.zero_le _
 rw [Gl.d_eq, Gl.put_kind, Gl.put_name, Gl.put_goals, Gl.put_terms, hxs]
 have e : ((xs.map T.tm).map fun t => (t.toT.subst f).tm) = (xs.map (T.subst f)).map T.tm := by simp [List.map_map, Function.comp_def, T.toT_tm]
 rw [e]
 refine ⟨⟨show _ ≤ g.kind by omega, show g.kind ≤ _ by omega⟩, hnm, goods_wd fun y hy => ?_, D.wds_of fun d hd => ?_, trivial⟩
 ·have w_ := List.mem_map.1 hy
  obtain ⟨x, hx, rfl⟩ := w_
  exact T.good_subst hf (hok x hx).1
 ·have w_ := List.mem_map.1 hd
  obtain ⟨y, hy, rfl⟩ := w_
  have w_ := List.mem_map.1 hy
  obtain ⟨z, hz, rfl⟩ := w_
  exact ih z hz (h.sub z hz)
end
end Go.Vx
namespace Go.Vx
open Go.Proofs Classical
theorem mapM_len {α β : Type} {f : α → Option β} : ∀ {l : List α} {ys : List β}, l.mapM f = some ys → ys.length = l.length
 | [], ys, h => by simp at h; subst h; rfl
 | x :: l, ys, h => by
  simp only [List.mapM_cons, bind, Option.bind_eq_some_iff, pure, Option.some.injEq] at h
  obtain ⟨y, h1, zs, h2, rfl⟩ := h
  simp [mapM_len h2]
theorem join_none {g k : Mem} {b : Nat} (h : (g.join k) b = none) : g b = none ∧ k b = none := by
 rw [Mem.join_get] at h
 cases hg : g b with
 | none => rw [hg] at h; exact ⟨rfl, h⟩
 | some o => rw [hg] at h; cases h
theorem Mem.Le.none {μ μ' : Mem} {b : Nat} (h : μ.Le μ') (k : μ' b = none) : μ b = none := by
 cases e : μ b with
 | none => rfl
 | some o => rw [h b o e] at k; cases k
theorem join_empty {g k : Mem} {b : Nat} (h1 : g b = none) (h2 : k b = none) : (g.join k) b = none := by
 rw [Mem.join_get, h1]; exact h2
theorem Grown.two {es1 es2 : Nat} {μ μ1 μ2 μ3 μ4 : Mem} {ds1 ds2 : List D} {ys1 ys2 : List Value} {b1 b2 : Option Nat} {cap1 cap2 : Nat} (k1 : Grown es1 μ μ1 ds1 ys1) (k2 : Grown es2 μ1 μ2 ds2 ys2) (h0 : μ.Le μ1) (h1 : μ1.Le μ2) (h2 : μ2.Le μ3) (h3 : μ3.Le μ4)
  (hb1 : ∀ r, b1 = some r → μ2 r = none) (hr1 : RowAt μ3 b1 cap1 es1 ys1) (hm1 : ys1.length ≤ maxLen) (hb2 : ∀ r, b2 = some r → μ3 r = none) (hr2 : RowAt μ4 b2 cap2 es2 ys2) (hm2 : ys2.length ≤ maxLen) :
  FreshS μ μ4 [.sl es1 ds1, .sl es2 ds2] [.slice (b1.map fun r => ⟨r, 0, none⟩) ys1.length cap1, .slice (b2.map fun r => ⟨r, 0, none⟩) ys2.length cap2] := by
 obtain ⟨g1, a1, l1, f1⟩ := k1
 obtain ⟨g2, a2, l2, f2⟩ := k2
 have F1 := Fresh.ofRow (μ := μ.join g2) (μ1 := μ2) (μ' := μ3) a1 (l1.trans h1) (fun x hx => join_empty (f1 x hx) (by
  cases e : g2 x with
  | none => rfl
  | some o =>
   have h4 := f2 x (by simp [e])
   exact absurd (l1.none h4) hx)) (join_le (h0.trans h1) l2) h2 hb1 hr1 hm1
 obtain ⟨G1, A1, L1, N1⟩ := F1
 have F2 := Fresh.ofRow (μ := μ.join G1) (μ1 := μ3) (μ' := μ4) a2 (l2.trans h2) (fun x hx => join_empty (h0.none (f2 x hx)) (by
  cases e : G1 x with
  | none => rfl
  | some o => exact absurd (join_none (N1 x (by simp [e]))).2 hx)) (join_le ((h0.trans h1).trans h2) L1) h3 hb2 hr2 hm2
 obtain ⟨G2, A2, L2, N2⟩ := F2
 have ap : Apart G1 G2 := fun x hx => by
  cases e : G2 x with
  | none => rfl
  | some o => exact absurd (join_none (N2 x (by simp [e]))).2 hx
 refine ⟨G1.join G2, OwnS.cons (Parts.join ap) A1.cells (OwnS.last A2.cells), join_le (L1.trans h3) L2, fun x hx => ?_⟩
 rcases join_ne hx with h | h
 ·exact (join_none (N1 x h)).1
 ·exact (join_none (N2 x h)).1
def Maps (k : FuncId) (caps : List Value) (μ : Mem) (F : T → Option T) : Prop := ∀ μ', μ.Le μ' → ∀ (x : T) (v : Value), x.ok → RepV μ' x.tm.d v →
 Spec Tryz.prog k (v :: caps) μ' fun v μ'' => optV (fun y tv => Fresh μ' μ'' y.tm.d tv) (F x) v
section
variable {μ : Mem}
theorem goalWith_spec {F : T → Option T} {k : FuncId} {caps : List Value} : ∀ (g : Gl) {μ : Mem} {v : Value}, Maps k caps μ F → RepV μ g.d v → g.Sh →
  Spec Tryz.prog 70 [v, .func (.func k) #[] caps.toArray] μ fun v μ' => optG (fun y tv => Fresh μ μ' y.d tv) (g.withO F) v :=
 Gl.ind fun g ih μ v hk hv hS => by
  have w_ := Gl.inv hv
  obtain ⟨p, rfl, hts, hgs⟩ := w_
  have w_ := lift_ok hS.top.tm
  obtain ⟨xs, hxs, hok⟩ := w_
  have hg8 := hS.top.gl
  have hx4 : xs.length ≤ 4 := by
   have T := hS.top
   have e9 := T.ln9; have e2 := T.ln2; have e1 := T.ln1; have e0 := T.ln0; have k0 := T.k0; have k1 := T.k1
   have : g.terms.length = xs.length := by rw [hxs, List.length_map]
   omega
  have e3 := Gl.withO_eq F g
  rw [hxs, toTs_tm] at e3
  rw [hxs, List.length_map] at hts ⊢
  refine Spec.mk Tryz.func70 (by kernel_rfl) ?_
  intro r1 r2 r3
  refine loop_nil (fun p : Nat × List T × Option Nat × Nat × List Value × Mem => p.1 ≤ xs.length ∧ μ.Le p.2.2.2.2.2 ∧ (xs.take p.1).mapM F = some p.2.1 ∧ Grown 4 μ p.2.2.2.2.2 ((p.2.1.map T.tm).map Tm.d) p.2.2.2.2.1)
   (fun (i, _, b, c, ys, μ') => ⟨[(1, .val (.func (.func k) #[] caps.toArray)), (2, .loc 0 r1 0), (4, .loc 1 r2 0), (6, .loc 2 r3 0), (21, .val (.slice p.1.1 xs.length p.1.2)), (22, .val (.int .i64 xs.length)), (23, .val (.int .i64 i))],
    [(0, some (.cells r1 [.val (.int .i64 g.kind), .val (.string g.name), .val (.slice p.1.1 xs.length p.1.2), .val (.slice p.2.1 g.goals.length p.2.2)] 30)), (1, some (.cells r2 [.val (.int .i64 0), .val (.string ⟨#[]⟩), .val (.slice none 0 0), .val (.slice none 0 0)] 30)), (2, some (.cells r3 [.val (.int .i64 g.kind), .val (.string g.name), .row 3 b ys.length c, .val (.slice none 0 0)] 30)), (3, some (.row b c 50 4 ys))], 4, μ', Mem.nil⟩) (fun p => xs.length - p.1)
   (0, [], none, 0, [], μ) ⟨by simp, Mem.Le.refl _, by simp, Grown.nil _ _ _⟩ (fun (_, _, _, _, _, _) => ⟨rfl, rfl⟩) ⟨⟨⟨_, rfl, .inl rfl⟩, ⟨_, rfl, .inl rfl⟩, ⟨_, rfl, .inl rfl⟩, ⟨_, rfl, .inl rfl⟩, ⟨_, rfl, .inl rfl⟩, ⟨_, rfl, .inl rfl⟩, ⟨_, rfl, .inl rfl⟩, trivial⟩, ⟨.inl rfl, .inl rfl, .inr (.inr ⟨_, _, _, _, rfl, rfl, .inl rfl, .inl rfl, .inr ⟨3, rfl, rfl, Nat.le_refl _⟩, .inl rfl, trivial⟩), .inr (.inl ⟨_, _, rfl, Nat.le_refl _⟩), trivial⟩, rfl, rfl⟩ ?_
  rintro ⟨i, zs, b, c, ys, μ'⟩ ⟨hi, hle, hmap, hrows⟩
  dsimp only at hi hle hmap hrows
  have hlen := hrows.len
  have hzl := mapM_len hmap
  simp only [List.length_map, List.length_take] at hlen hzl
  refine ifd (fun h => ?_) (fun h => ?_)
  ·have w_ := aSo (l := xs) (i := i) (by omega)
   obtain ⟨t, ht⟩ := w_
   have ht' : (xs.map T.tm)[i]? = some t.tm := by simp [ht]
   have w_ := Tm.elem (hts.mono hle) ht'
   obtain ⟨ad, p3, hel, hr⟩ := w_
   have w_ := mapM_snoc ht hmap
   obtain ⟨hs1, hs2⟩ := w_
   refine eIn hel ?_
   intro r4
   refine cPl (hk μ' hle t _ (hok t (mAt ht)) hr) fun v' μ'' hle2 hR => ?_
   cases hf : F t with
   | none =>
    rw [hf] at hR
    obtain rfl := hR
    intro r5
    refine iIn (fun _ => ?_) (fun h => absurd h (by simp))
    exact rPl (by rw [e3, hs2 hf]; rfl)
   | some y =>
    rw [hf] at hR hs1
    obtain ⟨tv, rfl, hR⟩ := hR
    have w_ := Tm.invV hR.rep
    obtain ⟨q, rfl⟩ := w_
    intro r5
    refine iIn (fun h => absurd h (by simp)) (fun _ => ?_)
    intro r6
    refine gIn ?_ ?_ fun b' c' _ => ?_
    ·show (ys.length + 1) * 56 ≤ _; omega
    ·exact Nat.le_trans (m := 100000000) (show ys.length + 1 ≤ _ by omega) (by decide)
    refine num64 (by omega) (by omega) ⟨(i + 1, zs ++ [y], b', c', _, μ''), ⟨by dsimp only; omega, hle.trans hle2, hs1, ?_⟩, by dsimp only; omega, ⟨⟨rfl, rfl, rfl, rfl, rfl, rfl, rfl, trivial⟩, ⟨rfl, rfl, rfl, rfl, trivial⟩, rfl, rfl⟩⟩
    dsimp only
    simp only [List.map_append, List.map_cons, List.map_nil]
    exact hrows.snoc hle hR hle2 (Tm.d_n _)
  ·obtain rfl : i = xs.length := by omega
   rw [List.take_length] at hmap
   rw [hmap] at e3
   dsimp only at e3
   have hgs1 := hgs.mono hle
   refine loop_nil (fun p : Nat × List Gl × Option Nat × Nat × List Value × Mem => p.1 ≤ g.goals.length ∧ μ'.Le p.2.2.2.2.2 ∧ (g.goals.take p.1).mapM (Gl.withO F) = some p.2.1 ∧ Grown 4 μ' p.2.2.2.2.2 (p.2.1.map Gl.d) p.2.2.2.2.1)
    (fun (i, _, b2, c2, us, μ'') => ⟨[(1, .val (.func (.func k) #[] caps.toArray)), (4, .loc 1 r2 0), (6, .loc 2 r3 0), (44, .val (.slice p.2.1 g.goals.length p.2.2)), (45, .val (.int .i64 g.goals.length)), (46, .val (.int .i64 i))],
     [(1, some (.cells r2 [.val (.int .i64 0), .val (.string ⟨#[]⟩), .val (.slice none 0 0), .val (.slice none 0 0)] 30)), (2, some (.cells r3 [.val (.int .i64 g.kind), .val (.string g.name), .row 3 b ys.length c, .row 4 b2 us.length c2] 30)), (3, some (.row b c 50 4 ys)), (4, some (.row b2 c2 30 4 us))], 5, μ'', Mem.nil⟩) (fun p => g.goals.length - p.1)
    (0, [], none, 0, [], μ') ⟨by simp, Mem.Le.refl _, by simp, Grown.nil _ _ _⟩ (fun (_, _, _, _, _, _) => ⟨rfl, rfl⟩) ⟨⟨⟨_, rfl, .inl rfl⟩, ⟨_, rfl, .inl rfl⟩, ⟨_, rfl, .inl rfl⟩, ⟨_, rfl, .inl rfl⟩, ⟨_, rfl, .inl rfl⟩, ⟨_, rfl, .inl rfl⟩, trivial⟩, ⟨.inl rfl, .inr (.inr ⟨_, _, _, _, rfl, rfl, .inl rfl, .inl rfl, .inl rfl, .inr ⟨4, rfl, rfl, Nat.le_refl _⟩, trivial⟩), .inl rfl, .inr (.inl ⟨_, _, rfl, Nat.le_refl _⟩), trivial⟩, rfl, rfl⟩ ?_
   rintro ⟨i, ws, b2, c2, us, μ''⟩ ⟨hi, hle3, hmap2, hrows2⟩
   dsimp only at hi hle3 hmap2 hrows2
   have hlen2 := hrows2.len
   have hwl := mapM_len hmap2
   simp only [List.length_map, List.length_take] at hlen2 hwl
   refine ifd (fun h => ?_) (fun h => ?_)
   ·have w_ := aSo (l := g.goals) (i := i) (by omega)
    obtain ⟨t, ht⟩ := w_
    have w_ := Gl.elem (hgs1.mono hle3) ht
    obtain ⟨ad, p3, hel, hr⟩ := w_
    have w_ := mapM_snoc ht hmap2
    obtain ⟨hs1, hs2⟩ := w_
    refine eIn hel ?_
    intro r4
    refine cPl (ih t (mAt ht) (fun m hm => hk m ((hle.trans hle3).trans hm)) hr (hS.sub t (mAt ht))) fun v' μ3 hle4 hR => ?_
    cases hf : t.withO F with
    | none =>
     rw [hf] at hR
     obtain rfl := hR
     intro r5
     refine iIn (fun _ => ?_) (fun h => absurd h (by simp))
     exact rPl (by rw [e3, hs2 hf]; rfl)
    | some y =>
     rw [hf] at hR hs1
     obtain ⟨tv, rfl, hR⟩ := hR
     have w_ := Gl.invV hR.rep
     obtain ⟨q, rfl⟩ := w_
     intro r5
     refine iIn (fun h => absurd h (by simp)) (fun _ => ?_)
     intro r6
     refine gIn ?_ ?_ fun b' c' _ => ?_
     ·show (us.length + 1) * 72 ≤ _; omega
     ·exact Nat.le_trans (m := 100000000) (show us.length + 1 ≤ _ by omega) (by decide)
     refine num64 (by omega) (by omega) ⟨(i + 1, ws ++ [y], b', c', _, μ3), ⟨by dsimp only; omega, hle3.trans hle4, hs1, ?_⟩, by dsimp only; omega, ⟨⟨rfl, rfl, rfl, rfl, rfl, rfl, trivial⟩, ⟨rfl, rfl, rfl, rfl, trivial⟩, rfl, rfl⟩⟩
     dsimp only
     simp only [List.map_append, List.map_cons, List.map_nil]
     exact hrows2.snoc hle3 hR hle4 (Gl.d_n _)
   ·obtain rfl : i = g.goals.length := by omega
    rw [List.take_length] at hmap2
    rw [hmap2] at e3
    dsimp only at e3
    refine rFz [3, 4] fun μ2 hle5 hno hrow => fun μ3 hle6 hno2 hrow2 => .inl ?_
    rw [e3]
    refine ⟨_, rfl, ?_⟩
    show Fresh μ μ3 (Gl.mk g.kind g.name (zs.map T.tm) ws).d _
    rw [Gl.d_eq]
    exact FreshS.st (FreshS.int (FreshS.str (Grown.two hrows hrows2 hle hle3 hle5 hle6 hno hrow (Nat.le_trans (m := 100000000) (by omega) (by decide)) hno2 hrow2 (Nat.le_trans (m := 100000000) (by omega) (by decide)))))
end
end Go.Vx
namespace Go.Vx
open Go.Proofs Classical
section
variable {μ : Mem}
def resGl : Option Gl → Gl
 | some y => y
 | none => .mk 0 ⟨#[]⟩ [] []
theorem zeroG_own : OwnV (resGl none).d Mem.nil (.agg #[.int .i64 0, .string ⟨#[]⟩, .slice none 0 0, .slice none 0 0]) := by
 rw [resGl, Gl.d_eq]
 exact ⟨_, rfl, OwnS.int (OwnS.str (OwnS.cons (c1 := [_]) (Parts.nil_left _) (Own.nilSl 4) (OwnS.last (Own.nilSl 4))))⟩
theorem Gl.Sh.lens {g : Gl} (h : g.Sh) : g.terms.length ≤ 4 := by
 have T := h.top
 have e9 := T.ln9; have e2 := T.ln2; have e1 := T.ln1; have e0 := T.ln0; have k0 := T.k0; have k1 := T.k1
 omega
set_option maxHeartbeats 4000000 in
end
end Go.Vx
namespace Go.Vx
open Go.Proofs Classical
open Go.Sort
def RowI (h0 : Mem) (r : Nat) (ty : TypeId) (rest : List Value) (d : Array Int) : Mem := h0.set r (.cells (List.toArray ([] ++ (d.toList.map (Value.int .i64) ++ rest))) ty (0, 0))
theorem arr_at {d : Array Int} {k : Nat} (h : k < d.size) : d.toList[k]? = some d[k]! := by
 rw [Array.getElem?_toList, getElem!_pos d k h, Array.getElem?_eq_getElem h]
section
variable {μ h0 : Mem} {r : Nat} {ty : TypeId} {rest : List Value} {d : Array Int}
theorem idxI {n : Nat} {i : Int} {K : Addr → List Value → Prop} {K' : Addr → Prop} (k : Nat) (e : i = k) (hk : k < n) (h : K' ⟨r, k, none⟩) : elemVC μ (some ⟨r, 0, none⟩) n 1 i K K' := by
 subst e
 refine ptr_intro ⟨r, 0, none⟩ rfl (by omega) (by omega) ?_
 have : (⟨r, 0, none⟩ : Addr).add ((k : Int).toNat * 1) = ⟨r, k, none⟩ := by rw [Addr.add_lit']; simp
 rw [this]; exact h
theorem rdI {k : Nat} {K : List Value → Prop} (hk : k < d.size) (h : K [.int .i64 d[k]!]) : extVC μ (RowI h0 r ty rest d) ⟨r, k, none⟩ 1 K :=
 own_at (pre := []) (j := k) (by simp) (by rw [List.getElem?_map, arr_at hk]; rfl) h
theorem wrI {k : Nat} {v : Int} {K : Mem → Prop} (hk : k < d.size) (h : K (RowI h0 r ty rest (d.setIfInBounds k v))) : stoVC (RowI h0 r ty rest d) ⟨r, k, none⟩ [.int .i64 v] K := by
 refine sto_at (pre := []) (j := k) (by simp) (by simpa using hk) ?_
 have e : (d.toList.map (Value.int .i64)).set k (.int .i64 v) = (d.setIfInBounds k v).toList.map (Value.int .i64) := by
  rw [Array.toList_setIfInBounds, List.map_set]
 rw [e]; exact h
theorem swp_size (d : Array Int) (i j : Nat) : (swp d i j).size = d.size := by simp [swp]
theorem isNaN_spec (x : Int) : Gives Tryz.prog 291 [.int .i64 x] μ (.bool false) := by
 refine Spec.mk Tryz.func291 (by kernel_rfl) ?_
 exact rGv (by simp) rfl
theorem Less_spec (x y : Int) : Gives Tryz.prog 280 [.int .i64 x, .int .i64 y] μ (.bool (ltInt x y)) := by
 refine Spec.mk Tryz.func280 (by kernel_rfl) ?_
 refine cGv (isNaN_spec x) ?_
 refine iIn (fun h => nomatch h) (fun _ => ?_)
 exact rGv rfl rfl
theorem insertionSort_spec {n a b : Nat} {cap : Nat} (hd : d.size = n) (ha : a ≤ b) (hb : b ≤ n) (hn : n ≤ 1000000000000) :
  SpecH Tryz.prog 274 [.slice (some ⟨r, 0, none⟩) n cap, .int .i64 a, .int .i64 b] μ (RowI h0 r ty rest d) fun v μ' h' => v = .tuple #[] ∧ μ' = μ ∧ h' = RowI h0 r ty rest (insertionSort ltInt d a b) := by
 refine SpecH.mk [] Tryz.func274 (by kernel_rfl) ?_
 rw [insertionSort]
 generalize hD : insOuter ltInt a b (a + 1) d = D
 refine nEq (x := ((a + 1 : Nat) : Int)) (by rw [wrap64 (by omega) (by omega)]; omega) ?_
 refine lIn (fun p : Nat × Array Int => a + 1 ≤ p.1 ∧ p.1 ≤ max b (a + 1) ∧ p.2.size = n ∧ insOuter ltInt a b p.1 p.2 = D)
  (fun (i, d) => ⟨[(0, .val (.slice (some ⟨r, 0, none⟩) n cap)), (1, .val (.int .i64 a)), (2, .val (.int .i64 b)), (6, .val (.int .i64 i))], [], 0, μ, RowI h0 r ty rest d⟩) (fun p => b - p.1)
  (a + 1, d) ⟨by omega, by omega, hd, hD⟩ (fun (_, _) => ⟨rfl, rfl⟩) ⟨⟨rfl, rfl, rfl, rfl, trivial⟩, trivial, rfl, rfl⟩ ?_
 rintro ⟨i, d1⟩ ⟨hi1, hi2, hs, hJ⟩
 dsimp only at hi1 hi2 hs hJ
 rw [insOuter] at hJ
 refine ifd (fun h => ?_) (fun h => ?_)
 ·rw [if_pos (by omega)] at hJ
  refine lIn (fun p : Nat × Array Int => p.1 < n ∧ p.2.size = n ∧ insInner ltInt a p.1 p.2 = insInner ltInt a i d1)
   (fun (j, d) => ⟨[(0, .val (.slice (some ⟨r, 0, none⟩) n cap)), (1, .val (.int .i64 a)), (2, .val (.int .i64 b)), (6, .val (.int .i64 i)), (7, .val (.int .i64 j))], [], 0, μ, RowI h0 r ty rest d⟩) (fun p => p.1)
   (i, d1) ⟨by omega, hs, rfl⟩ (fun (_, _) => ⟨rfl, rfl⟩) ⟨⟨rfl, rfl, rfl, rfl, rfl, trivial⟩, trivial, rfl, rfl⟩ ?_
  rintro ⟨j, d2⟩ ⟨hj, hs2, hJ2⟩
  dsimp only at hj hs2 hJ2
  refine ifd (fun hja => ?_) (fun hja => ?_)
  ·obtain ⟨j, rfl⟩ : ∃ k, j = k + 1 := ⟨j - 1, by omega⟩
   rw [insInner] at hJ2
   refine idxI (j + 1) rfl (by omega) ?_
   refine rdI (by omega) ?_
   refine nEq (x := ((j : Nat) : Int)) (by rw [wrap64 (by omega) (by omega)]; omega) ?_
   refine idxI j rfl (by omega) ?_
   refine rdI (by omega) ?_
   refine cGv (Less_spec _ _) ?_
   have g : decide (j + 1 > a) = true := decide_eq_true (by omega)
   refine iIn (fun hl => ?_) (fun hl => ?_)
   ·rw [g, hl, Bool.and_self, if_pos rfl] at hJ2
    refine nEq (x := ((j : Nat) : Int)) (by rw [wrap64 (by omega) (by omega)]; omega) ?_
    refine nEq (x := ((j : Nat) : Int)) (by rw [wrap64 (by omega) (by omega)]; omega) ?_
    refine idxI j rfl (by omega) ?_
    refine rdI (by omega) ?_
    refine idxI (j + 1) rfl (by omega) ?_
    refine rdI (by omega) ?_
    refine idxI (j + 1) rfl (by omega) ?_
    refine wrI (by omega) ?_
    refine idxI j rfl (by omega) ?_
    refine wrI (by simp; omega) ?_
    refine nEq (x := ((j : Nat) : Int)) (by rw [wrap64 (by omega) (by omega)]; omega) ?_
    exact ⟨(j, swp d2 (j + 1) j), ⟨by dsimp only; omega, by dsimp only; rw [swp_size]; exact hs2, hJ2⟩, by dsimp only; omega, ⟨⟨rfl, rfl, rfl, rfl, rfl, trivial⟩, trivial, rfl, rfl⟩⟩
   ·rw [hl, Bool.and_false, if_neg (by simp)] at hJ2
    exact num64 (by omega) (by omega) ⟨(i + 1, d2), ⟨by dsimp only; omega, by dsimp only; omega, hs2, by dsimp only; rw [hJ2]; exact hJ⟩, by dsimp only; omega, ⟨⟨rfl, rfl, rfl, rfl, trivial⟩, trivial, rfl, rfl⟩⟩
  ·have hJ3 : insInner ltInt a j d2 = d2 := by
    cases j with
    | zero => rfl
    | succ j => rw [insInner, if_neg]; simp; omega
   rw [hJ3] at hJ2
   exact num64 (by omega) (by omega) ⟨(i + 1, d2), ⟨by dsimp only; omega, by dsimp only; omega, hs2, by dsimp only; rw [hJ2]; exact hJ⟩, by dsimp only; omega, ⟨⟨rfl, rfl, rfl, rfl, trivial⟩, trivial, rfl, rfl⟩⟩
 ·rw [if_neg (by omega)] at hJ
  exact rPl ⟨rfl, rfl, by rw [hJ]⟩
end
end Go.Vx
namespace Go.Vx
open Go.Proofs Classical
open Go.Sort
section
variable {μ h0 : Mem} {r : Nat} {ty : TypeId} {rest : List Value} {d : Array Int}
theorem reverseRange_spec {n a b : Nat} {cap : Nat} (hd : d.size = n) (hb1 : 1 ≤ b) (ha : a ≤ b) (hb : b ≤ n) (hn : n ≤ 1000000000000) :
  SpecH Tryz.prog 278 [.slice (some ⟨r, 0, none⟩) n cap, .int .i64 a, .int .i64 b] μ (RowI h0 r ty rest d) fun v μ' h' => v = .tuple #[] ∧ μ' = μ ∧ h' = RowI h0 r ty rest (reverseRange d a b) := by
 refine SpecH.mk [] Tryz.func278 (by kernel_rfl) ?_
 rw [reverseRange]
 generalize hD : reverseLoop a (b - 1) d = D
 refine nEq (x := ((b - 1 : Nat) : Int)) (by rw [wrap64 (by omega) (by omega)]; omega) ?_
 refine lIn (fun p : Nat × Nat × Array Int => p.2.1 < n ∧ p.1 ≤ n ∧ p.2.2.size = n ∧ reverseLoop p.1 p.2.1 p.2.2 = D)
  (fun (i, j, d) => ⟨[(0, .val (.slice (some ⟨r, 0, none⟩) n cap)), (6, .val (.int .i64 i)), (7, .val (.int .i64 j))], [], 0, μ, RowI h0 r ty rest d⟩) (fun p => p.2.1)
  (a, b - 1, d) ⟨by dsimp only; omega, by dsimp only; omega, hd, hD⟩ (fun (_, _, _) => ⟨rfl, rfl⟩) ⟨⟨rfl, rfl, rfl, trivial⟩, trivial, rfl, rfl⟩ ?_
 rintro ⟨i, j, d1⟩ ⟨hj, hi, hs, hJ⟩
 dsimp only at hj hi hs hJ
 rw [reverseLoop] at hJ
 refine ifd (fun h => ?_) (fun h => ?_)
 ·rw [if_pos (by omega)] at hJ
  refine idxI (j) (by omega) (by omega) ?_
  refine rdI (by omega) ?_
  refine idxI (i) (by omega) (by omega) ?_
  refine rdI (by omega) ?_
  refine idxI (i) (by omega) (by omega) ?_
  refine wrI (by omega) ?_
  refine idxI (j) (by omega) (by omega) ?_
  refine wrI (by simp; omega) ?_
  refine nEq (x := ((i + 1 : Nat) : Int)) (by rw [wrap64 (by omega) (by omega)]; omega) ?_
  refine nEq (x := ((j - 1 : Nat) : Int)) (by rw [wrap64 (by omega) (by omega)]; omega) ?_
  exact ⟨(i + 1, j - 1, swp d1 i j), ⟨by dsimp only; omega, by dsimp only; omega, by dsimp only; rw [swp_size]; exact hs, hJ⟩, by dsimp only; omega, ⟨⟨rfl, rfl, rfl, trivial⟩, trivial, rfl, rfl⟩⟩
 ·rw [if_neg (by omega)] at hJ
  exact rPl ⟨rfl, rfl, by rw [hJ]⟩
theorem siftDown_spec {n lo hi first : Nat} {cap : Nat} (hd : d.size = n) (hb : first + hi ≤ n) (hl : lo ≤ n) (hn : n ≤ 1000000000000) :
  SpecH Tryz.prog 286 [.slice (some ⟨r, 0, none⟩) n cap, .int .i64 lo, .int .i64 hi, .int .i64 first] μ (RowI h0 r ty rest d) fun v μ' h' => v = .tuple #[] ∧ μ' = μ ∧ h' = RowI h0 r ty rest (siftDown ltInt hi first lo d) := by
 refine SpecH.mk [] Tryz.func286 (by kernel_rfl) ?_
 generalize hD : siftDown ltInt hi first lo d = D
 refine lIn (fun p : Nat × Array Int => p.1 ≤ n ∧ p.2.size = n ∧ siftDown ltInt hi first p.1 p.2 = D)
  (fun (i, d) => ⟨[(0, .val (.slice (some ⟨r, 0, none⟩) n cap)), (2, .val (.int .i64 hi)), (3, .val (.int .i64 first)), (8, .val (.int .i64 i))], [], 0, μ, RowI h0 r ty rest d⟩) (fun p => hi - p.1)
  (lo, d) ⟨hl, hd, hD⟩ (fun (_, _) => ⟨rfl, rfl⟩) ⟨⟨rfl, rfl, rfl, rfl, trivial⟩, trivial, rfl, rfl⟩ ?_
 rintro ⟨i, d1⟩ ⟨hi1, hs, hJ⟩
 dsimp only at hi1 hs hJ
 rw [siftDown] at hJ
 refine nEq (x := ((2 * i : Nat) : Int)) (by rw [wrap64 (by omega) (by omega)]; omega) ?_
 refine nEq (x := ((2 * i + 1 : Nat) : Int)) (by rw [wrap64 (by omega) (by omega)]; omega) ?_
 refine ifd (fun h => ?_) (fun h => ?_)
 ·rw [dif_pos (by omega)] at hJ
  exact rPl ⟨rfl, rfl, by rw [hJ]⟩
 rw [dif_neg (by omega)] at hJ
 refine nEq (x := ((2 * i + 1 + 1 : Nat) : Int)) (by rw [wrap64 (by omega) (by omega)]; omega) ?_
 refine ifd (fun h2 => ?_) (fun h2 => ?_)
 ·refine nEq (x := ((first + (2 * i + 1) : Nat) : Int)) (by rw [wrap64 (by omega) (by omega)]; omega) ?_
  refine idxI (first + (2 * i + 1)) (by omega) (by omega) ?_
  refine rdI (by omega) ?_
  refine nEq (x := ((first + (2 * i + 1) : Nat) : Int)) (by rw [wrap64 (by omega) (by omega)]; omega) ?_
  refine nEq (x := ((first + (2 * i + 1) + 1 : Nat) : Int)) (by rw [wrap64 (by omega) (by omega)]; omega) ?_
  refine idxI (first + (2 * i + 1) + 1) (by omega) (by omega) ?_
  refine rdI (by omega) ?_
  refine cGv (Less_spec _ _) ?_
  have g : decide (2 * i + 1 + 1 < hi) = true := decide_eq_true (by omega)
  refine iIn (fun hl => ?_) (fun hl => ?_)
  ·rw [g, hl, Bool.and_self, if_pos rfl] at hJ
   refine nEq (x := ((2 * i + 2 : Nat) : Int)) (by rw [wrap64 (by omega) (by omega)]; omega) ?_
   refine nEq (x := ((first + i : Nat) : Int)) (by rw [wrap64 (by omega) (by omega)]; omega) ?_
   refine idxI (first + i) (by omega) (by omega) ?_
   refine rdI (by omega) ?_
   refine nEq (x := ((first + (2 * i + 2) : Nat) : Int)) (by rw [wrap64 (by omega) (by omega)]; omega) ?_
   refine idxI (first + (2 * i + 2)) (by omega) (by omega) ?_
   refine rdI (by omega) ?_
   refine cGv (Less_spec _ _) ?_
   refine iIn (fun hl => ?_) (fun hl => ?_)
   ·rw [if_pos (by simpa using hl)] at hJ
    exact rPl ⟨rfl, rfl, by rw [hJ]⟩
   ·rw [if_neg (by simpa using hl)] at hJ
    try rw [dif_pos (by omega)] at hJ
    refine nEq (x := ((first + i : Nat) : Int)) (by rw [wrap64 (by omega) (by omega)]; omega) ?_
    refine nEq (x := ((first + (2 * i + 2) : Nat) : Int)) (by rw [wrap64 (by omega) (by omega)]; omega) ?_
    refine nEq (x := ((first + (2 * i + 2) : Nat) : Int)) (by rw [wrap64 (by omega) (by omega)]; omega) ?_
    refine idxI (first + (2 * i + 2)) (by omega) (by omega) ?_
    refine rdI (by omega) ?_
    refine nEq (x := ((first + i : Nat) : Int)) (by rw [wrap64 (by omega) (by omega)]; omega) ?_
    refine idxI (first + i) (by omega) (by omega) ?_
    refine rdI (by omega) ?_
    refine idxI (first + i) (by omega) (by omega) ?_
    refine wrI (by omega) ?_
    refine idxI (first + (2 * i + 2)) (by omega) (by omega) ?_
    refine wrI (by simp; omega) ?_
    exact ⟨(2 * i + 2, swp d1 (first + i) (first + (2 * i + 2))), ⟨by dsimp only; omega, by dsimp only; rw [swp_size]; exact hs, hJ⟩, by dsimp only; omega, ⟨⟨rfl, rfl, rfl, rfl, trivial⟩, trivial, rfl, rfl⟩⟩
  ·rw [hl, Bool.and_false, if_neg (by simp)] at hJ
   refine nEq (x := ((first + i : Nat) : Int)) (by rw [wrap64 (by omega) (by omega)]; omega) ?_
   refine idxI (first + i) (by omega) (by omega) ?_
   refine rdI (by omega) ?_
   refine nEq (x := ((first + (2 * i + 1) : Nat) : Int)) (by rw [wrap64 (by omega) (by omega)]; omega) ?_
   refine idxI (first + (2 * i + 1)) (by omega) (by omega) ?_
   refine rdI (by omega) ?_
   refine cGv (Less_spec _ _) ?_
   refine iIn (fun hl => ?_) (fun hl => ?_)
   ·rw [if_pos (by simpa using hl)] at hJ
    exact rPl ⟨rfl, rfl, by rw [hJ]⟩
   ·rw [if_neg (by simpa using hl)] at hJ
    try rw [dif_pos (by omega)] at hJ
    refine nEq (x := ((first + i : Nat) : Int)) (by rw [wrap64 (by omega) (by omega)]; omega) ?_
    refine nEq (x := ((first + (2 * i + 1) : Nat) : Int)) (by rw [wrap64 (by omega) (by omega)]; omega) ?_
    refine nEq (x := ((first + (2 * i + 1) : Nat) : Int)) (by rw [wrap64 (by omega) (by omega)]; omega) ?_
    refine idxI (first + (2 * i + 1)) (by omega) (by omega) ?_
    refine rdI (by omega) ?_
    refine nEq (x := ((first + i : Nat) : Int)) (by rw [wrap64 (by omega) (by omega)]; omega) ?_
    refine idxI (first + i) (by omega) (by omega) ?_
    refine rdI (by omega) ?_
    refine idxI (first + i) (by omega) (by omega) ?_
    refine wrI (by omega) ?_
    refine idxI (first + (2 * i + 1)) (by omega) (by omega) ?_
    refine wrI (by simp; omega) ?_
    exact ⟨(2 * i + 1, swp d1 (first + i) (first + (2 * i + 1))), ⟨by dsimp only; omega, by dsimp only; rw [swp_size]; exact hs, hJ⟩, by dsimp only; omega, ⟨⟨rfl, rfl, rfl, rfl, trivial⟩, trivial, rfl, rfl⟩⟩
 ·have g : decide (2 * i + 1 + 1 < hi) = false := decide_eq_false (by omega)
  rw [g, Bool.false_and, if_neg (by simp)] at hJ
  refine nEq (x := ((first + i : Nat) : Int)) (by rw [wrap64 (by omega) (by omega)]; omega) ?_
  refine idxI (first + i) (by omega) (by omega) ?_
  refine rdI (by omega) ?_
  refine nEq (x := ((first + (2 * i + 1) : Nat) : Int)) (by rw [wrap64 (by omega) (by omega)]; omega) ?_
  refine idxI (first + (2 * i + 1)) (by omega) (by omega) ?_
  refine rdI (by omega) ?_
  refine cGv (Less_spec _ _) ?_
  refine iIn (fun hl => ?_) (fun hl => ?_)
  ·rw [if_pos (by simpa using hl)] at hJ
   exact rPl ⟨rfl, rfl, by rw [hJ]⟩
  ·rw [if_neg (by simpa using hl)] at hJ
   try rw [dif_pos (by omega)] at hJ
   refine nEq (x := ((first + i : Nat) : Int)) (by rw [wrap64 (by omega) (by omega)]; omega) ?_
   refine nEq (x := ((first + (2 * i + 1) : Nat) : Int)) (by rw [wrap64 (by omega) (by omega)]; omega) ?_
   refine nEq (x := ((first + (2 * i + 1) : Nat) : Int)) (by rw [wrap64 (by omega) (by omega)]; omega) ?_
   refine idxI (first + (2 * i + 1)) (by omega) (by omega) ?_
   refine rdI (by omega) ?_
   refine nEq (x := ((first + i : Nat) : Int)) (by rw [wrap64 (by omega) (by omega)]; omega) ?_
   refine idxI (first + i) (by omega) (by omega) ?_
   refine rdI (by omega) ?_
   refine idxI (first + i) (by omega) (by omega) ?_
   refine wrI (by omega) ?_
   refine idxI (first + (2 * i + 1)) (by omega) (by omega) ?_
   refine wrI (by simp; omega) ?_
   exact ⟨(2 * i + 1, swp d1 (first + i) (first + (2 * i + 1))), ⟨by dsimp only; omega, by dsimp only; rw [swp_size]; exact hs, hJ⟩, by dsimp only; omega, ⟨⟨rfl, rfl, rfl, rfl, trivial⟩, trivial, rfl, rfl⟩⟩
theorem siftDown_size (hi first : Nat) : ∀ (m root : Nat) (d : Array Int), hi - root ≤ m → (siftDown ltInt hi first root d).size = d.size := by
 intro m
 induction m with
 | zero =>
  intro root d h
  rw [siftDown, dif_pos (by omega)]
 | succ m ih =>
  intro root d h
  rw [siftDown]
  repeat' split
  all_goals first
   | rfl
   | (rw [ih _ _ (by omega), Go.Sort.swp_size])
theorem heapSort_spec {n a b : Nat} {cap : Nat} (hd : d.size = n) (ha : a < b) (hb : b ≤ n) (hn : n ≤ 1000000000000) :
  SpecH Tryz.prog 275 [.slice (some ⟨r, 0, none⟩) n cap, .int .i64 a, .int .i64 b] μ (RowI h0 r ty rest d) fun v μ' h' => v = .tuple #[] ∧ μ' = μ ∧ h' = RowI h0 r ty rest (heapSort ltInt d a b) := by
 refine SpecH.mk [] Tryz.func275 (by kernel_rfl) ?_
 rw [heapSort]
 generalize hD1 : heapBuild ltInt (b - a) a ((b - a - 1) / 2 + 1) d = D1
 generalize hD : heapPop ltInt a (b - a) D1 = D
 refine nEq (x := ((b - a : Nat) : Int)) (by rw [wrap64 (by omega) (by omega)]; omega) ?_
 refine nEq (x := ((b - a - 1 : Nat) : Int)) (by rw [wrap64 (by omega) (by omega)]; omega) ?_
 refine need_intro (by decide) ?_
 refine nEq (x := (((b - a - 1) / 2 + 1 : Nat) : Int) - 1) (by rw [Int.tdiv_eq_ediv_of_nonneg (by omega), wrap64 (by omega) (by omega)]; omega) ?_
 refine lIn (fun p : Nat × Array Int => p.1 ≤ b - a ∧ p.2.size = n ∧ heapBuild ltInt (b - a) a p.1 p.2 = D1)
  (fun (k, d) => ⟨[(0, .val (.slice (some ⟨r, 0, none⟩) n cap)), (6, .val (.int .i64 a)), (7, .val (.int .i64 0)), (8, .val (.int .i64 (b - a : Nat))), (9, .val (.int .i64 ((k : Int) - 1)))], [], 0, μ, RowI h0 r ty rest d⟩) (fun p => p.1)
  ((b - a - 1) / 2 + 1, d) ⟨by dsimp only; omega, hd, hD1⟩ (fun (_, _) => ⟨rfl, rfl⟩) ⟨⟨rfl, rfl, rfl, rfl, rfl, trivial⟩, trivial, rfl, rfl⟩ ?_
 rintro ⟨k, d1⟩ ⟨hk, hs, hJ⟩
 dsimp only at hk hs hJ
 refine ifd (fun h => ?_) (fun h => ?_)
 ·obtain ⟨k, rfl⟩ : ∃ m, k = m + 1 := ⟨k - 1, by omega⟩
  rw [heapBuild] at hJ
  have e : (((k + 1 : Nat) : Int) - 1) = (k : Nat) := by omega
  rw [e]
  refine cOw (siftDown_spec (lo := k) (hi := b - a) (first := a) hs (by omega) (by omega) hn) fun v μ' h' hle hap hR => ?_
  obtain ⟨rfl, e2, rfl⟩ := hR
  obtain rfl := e2.symm
  refine nEq (x := (k : Int) - 1) (by rw [wrap64 (by omega) (by omega)]) ?_
  exact ⟨(k, siftDown ltInt (b - a) a k d1), ⟨by dsimp only; omega, by dsimp only; rw [siftDown_size _ _ _ _ _ (Nat.le_refl _)]; exact hs, hJ⟩, by dsimp only; omega, ⟨⟨rfl, rfl, rfl, rfl, rfl, trivial⟩, trivial, rfl, rfl⟩⟩
 obtain rfl : k = 0 := by omega
 have hJ : d1 = D1 := hJ
 subst hJ
 refine nEq (x := ((b - a : Nat) : Int) - 1) (by rw [wrap64 (by omega) (by omega)]) ?_
 refine lIn (fun p : Nat × Array Int => p.1 ≤ b - a ∧ p.2.size = n ∧ heapPop ltInt a p.1 p.2 = D)
  (fun (k, d) => ⟨[(0, .val (.slice (some ⟨r, 0, none⟩) n cap)), (6, .val (.int .i64 a)), (7, .val (.int .i64 0)), (10, .val (.int .i64 ((k : Int) - 1)))], [], 0, μ, RowI h0 r ty rest d⟩) (fun p => p.1)
  (b - a, d1) ⟨by dsimp only; omega, hs, hD⟩ (fun (_, _) => ⟨rfl, rfl⟩) ⟨⟨rfl, rfl, rfl, rfl, trivial⟩, trivial, rfl, rfl⟩ ?_
 rintro ⟨k, d2⟩ ⟨hk, hs2, hJ⟩
 dsimp only at hk hs2 hJ
 refine ifd (fun h => ?_) (fun h => ?_)
 ·obtain ⟨k, rfl⟩ : ∃ m, k = m + 1 := ⟨k - 1, by omega⟩
  rw [heapPop] at hJ
  have e : (((k + 1 : Nat) : Int) - 1) = (k : Nat) := by omega
  rw [e]
  refine nEq (x := ((a + k : Nat) : Int)) (by rw [wrap64 (by omega) (by omega)]; omega) ?_
  refine nEq (x := ((a + k : Nat) : Int)) (by rw [wrap64 (by omega) (by omega)]; omega) ?_
  refine idxI (a + k) (by omega) (by omega) ?_
  refine rdI (by omega) ?_
  refine idxI (a) (by omega) (by omega) ?_
  refine rdI (by omega) ?_
  refine idxI (a) (by omega) (by omega) ?_
  refine wrI (by omega) ?_
  refine idxI (a + k) (by omega) (by omega) ?_
  refine wrI (by simp; omega) ?_
  refine cOw (siftDown_spec (d := swp d2 a (a + k)) (lo := 0) (hi := k) (first := a) ((Go.Sort.swp_size _ _ _).trans hs2) (by omega) (by omega) hn) fun v μ' h' hle hap hR => ?_
  obtain ⟨rfl, e2, rfl⟩ := hR
  obtain rfl := e2.symm
  refine nEq (x := (k : Int) - 1) (by rw [wrap64 (by omega) (by omega)]) ?_
  exact ⟨(k, _), ⟨by dsimp only; omega, by dsimp only; rw [siftDown_size _ _ _ _ _ (Nat.le_refl _), Go.Sort.swp_size]; exact hs2, hJ⟩, by dsimp only; omega, ⟨⟨rfl, rfl, rfl, rfl, trivial⟩, trivial, rfl, rfl⟩⟩
 obtain rfl : k = 0 := by omega
 have hJ : d2 = D := hJ
 subst hJ
 exact rPl ⟨rfl, rfl, rfl⟩
end
end Go.Vx
namespace Go.Vx
open Go.Proofs Classical
open Go.Sort
def RowS (h0 : Mem) (r : Nat) (ty : TypeId) (rest : List Value) (d : Array Int) (rs : Nat) (s : Int) : Mem := RowI (h0.set rs (.cells #[.int .i64 s] 3 (0, 0))) r ty rest d
section
variable {μ h0 : Mem} {r rs : Nat} {ty : TypeId} {rest : List Value} {d : Array Int} {s : Int}
theorem RowS.at (hne : rs ≠ r) : RowS h0 r ty rest d rs s rs = some (.cells #[.int .i64 s] 3 (0, 0)) := by
 rw [RowS, RowI, Mem.set_ne hne, Mem.set_at]
theorem rdS {K : List Value → Prop} (hne : rs ≠ r) (h : K [.int .i64 s]) : extVC μ (RowS h0 r ty rest d rs s) ⟨rs, 0, none⟩ 1 K := oIn _ rfl (box_at (RowS.at hne)) h
theorem Mem.set_comm {m : Mem} {a b : Nat} {x y : Obj} (h : a ≠ b) : (m.set a x).set b y = (m.set b y).set a x := by
 funext k
 simp only [Mem.set_get]
 by_cases h1 : k = b
 ·subst h1; rw [if_pos rfl, if_neg (fun e => h e.symm), if_pos rfl]
 ·rw [if_neg h1]
  by_cases h2 : k = a
  ·rw [if_pos h2, if_pos h2]
  ·rw [if_neg h2, if_neg h2, if_neg h1]
theorem wrS {v : Int} {K : Mem → Prop} (hne : rs ≠ r) (h : K (RowS h0 r ty rest d rs v)) : stoVC (RowS h0 r ty rest d rs s) ⟨rs, 0, none⟩ [.int .i64 v] K := by
 refine sIn [.int .i64 s] 3 (RowS.at hne) rfl (Nat.le_refl _) ?_
 have e : Mem.set (RowS h0 r ty rest d rs s) rs (.cells #[.int .i64 v] 3 (0, 0)) = RowS h0 r ty rest d rs v := by
  rw [RowS, RowI, Mem.set_comm (fun e => hne e.symm), Mem.set_set]
  rfl
 show K (Mem.set (RowS h0 r ty rest d rs s) rs (.cells #[.int .i64 v] 3 (0, 0)))
 rw [e]; exact h
theorem RowS.row (h0 : Mem) (r : Nat) (ty : TypeId) (rest : List Value) (d : Array Int) (rs : Nat) (s : Int) : RowS h0 r ty rest d rs s = RowI (h0.set rs (.cells #[.int .i64 s] 3 (0, 0))) r ty rest d := rfl
theorem order2_spec {n a b cap : Nat} (hne : rs ≠ r) (hd : d.size = n) (ha : a < n) (hb : b < n) :
  SpecH Tryz.prog 293 [.slice (some ⟨r, 0, none⟩) n cap, .int .i64 a, .int .i64 b, .pointer (some ⟨rs, 0, none⟩)] μ (RowS h0 r ty rest d rs s) fun v μ' h' =>
   ∃ x y : Nat, ((x = a ∧ y = b) ∨ (x = b ∧ y = a)) ∧ v = .tuple #[.int .i64 x, .int .i64 y] ∧ μ' = μ ∧ ∃ s', h' = RowS h0 r ty rest d rs s' := by
 refine SpecH.mk [] Tryz.func293 (by kernel_rfl) ?_
 refine idxI (b) (by omega) (by omega) ?_
 refine rdI (by omega) ?_
 refine idxI (a) (by omega) (by omega) ?_
 refine rdI (by omega) ?_
 refine cGv (Less_spec _ _) ?_
 refine iIn (fun hl => ?_) (fun hl => ?_)
 ·refine rdS hne ?_
  refine num_intro fun x _ => ?_
  refine wrS hne ?_
  exact rPl ⟨b, a, .inr ⟨rfl, rfl⟩, rfl, rfl, _, rfl⟩
 ·exact rPl ⟨a, b, .inl ⟨rfl, rfl⟩, rfl, rfl, _, rfl⟩
theorem median_spec {n a b c cap : Nat} (hne : rs ≠ r) (hd : d.size = n) (ha : a < n) (hb : b < n) (hc : c < n) :
  SpecH Tryz.prog 290 [.slice (some ⟨r, 0, none⟩) n cap, .int .i64 a, .int .i64 b, .int .i64 c, .pointer (some ⟨rs, 0, none⟩)] μ (RowS h0 r ty rest d rs s) fun v μ' h' =>
   ∃ x : Nat, (x = a ∨ x = b ∨ x = c) ∧ v = .int .i64 x ∧ μ' = μ ∧ ∃ s', h' = RowS h0 r ty rest d rs s' := by
 refine SpecH.mk [] Tryz.func290 (by kernel_rfl) ?_
 refine cOw (order2_spec hne hd ha hb) fun v μ' h' hle hap hR => ?_
 obtain ⟨x1, y1, o1, rfl, e1, s1, rfl⟩ := hR
 obtain rfl := e1.symm
 refine cOw (order2_spec (a := y1) (b := c) hne hd (by omega) hc) fun v μ' h' hle hap hR => ?_
 obtain ⟨x2, y2, o2, rfl, e2, s2, rfl⟩ := hR
 obtain rfl := e2.symm
 refine cOw (order2_spec (a := x1) (b := x2) hne hd (by omega) (by omega)) fun v μ' h' hle hap hR => ?_
 obtain ⟨x3, y3, o3, rfl, e3, s3, rfl⟩ := hR
 obtain rfl := e3.symm
 exact rPl ⟨y3, by omega, rfl, rfl, _, rfl⟩
theorem medianAdjacent_spec {n a cap : Nat} (hne : rs ≠ r) (hd : d.size = n) (ha : 1 ≤ a) (hb : a + 1 < n) (hn : n ≤ 1000000000000) :
  SpecH Tryz.prog 289 [.slice (some ⟨r, 0, none⟩) n cap, .int .i64 a, .pointer (some ⟨rs, 0, none⟩)] μ (RowS h0 r ty rest d rs s) fun v μ' h' =>
   ∃ x : Nat, (x + 1 = a ∨ x = a ∨ x = a + 1) ∧ v = .int .i64 x ∧ μ' = μ ∧ ∃ s', h' = RowS h0 r ty rest d rs s' := by
 refine SpecH.mk [] Tryz.func289 (by kernel_rfl) ?_
 refine nEq (x := ((a - 1 : Nat) : Int)) (by rw [wrap64 (by omega) (by omega)]; omega) ?_
 refine nEq (x := ((a + 1 : Nat) : Int)) (by rw [wrap64 (by omega) (by omega)]; omega) ?_
 refine cOw (median_spec (a := a - 1) (b := a) (c := a + 1) hne hd (by omega) (by omega) (by omega)) fun v μ' h' hle hap hR => ?_
 obtain ⟨x1, o1, rfl, e1, s1, rfl⟩ := hR
 obtain rfl := e1.symm
 exact rPl ⟨x1, by omega, rfl, rfl, _, rfl⟩
theorem RowS.parts (hne : rs ≠ r) (hs : h0 rs = none) : Parts (RowS h0 r ty rest d rs s) (Mem.nil.set rs (.cells #[.int .i64 s] 3 (0, 0))) (RowI h0 r ty rest d) := fun b => by
 by_cases h : b = rs
 ·subst h
  exact .inl ⟨by rw [RowS.at hne, Mem.set_at], by rw [RowI, Mem.set_ne hne]; exact hs⟩
 ·refine .inr ⟨?_, by rw [Mem.set_ne h]; rfl⟩
  rw [RowS, RowI, RowI]
  by_cases h2 : b = r
  ·subst h2; rw [Mem.set_at, Mem.set_at]
  ·rw [Mem.set_ne h2, Mem.set_ne h2, Mem.set_ne h]
set_option maxHeartbeats 4000000 in
theorem choosePivot_spec {n a b cap : Nat} (hr : h0 r = none) (hd : d.size = n) (ha : a < b) (hb : b ≤ n) (hn : n ≤ 1000000000000) :
  SpecH Tryz.prog 277 [.slice (some ⟨r, 0, none⟩) n cap, .int .i64 a, .int .i64 b] μ (RowI h0 r ty rest d) fun v _μ' h' =>
   ∃ p k : Nat, a ≤ p ∧ p < b ∧ k ≤ 2 ∧ v = .tuple #[.int .i64 p, .int .i64 k] ∧ h' = RowI h0 r ty rest d := by
 refine SpecH.mk [9] Tryz.func277 (by kernel_rfl) ?_
 refine nEq (x := ((b - a : Nat) : Int)) (by rw [wrap64 (by omega) (by omega)]; omega) ?_
 intro rs hm ho
 have hne : rs ≠ r := fun e => by
  subst e
  have : RowI h0 rs ty rest d rs = none := ho
  rw [RowI, Mem.set_at] at this; cases this
 have hs0 : h0 rs = none := by
  have : RowI h0 r ty rest d rs = none := ho
  rwa [RowI, Mem.set_ne hne] at this
 have e0 : Mem.set (RowI h0 r ty rest d) rs (.cells #[.int .i64 0] 3 (0, 0)) = RowS h0 r ty rest d rs 0 := by
  rw [RowS, RowI, RowI, Mem.set_comm (fun e => hne e.symm)]
 generalize hH : Mem.set (RowI h0 r ty rest d) rs _ = H
 obtain rfl : H = RowS h0 r ty rest d rs 0 := hH.symm.trans e0
 clear e0 hH ho hm
 refine need_intro (by decide) ?_
 refine nEq (x := (((b - a) / 4 : Nat) : Int)) (by rw [Int.tdiv_eq_ediv_of_nonneg (by omega), wrap64 (by omega) (by omega)]; omega) ?_
 refine nEq (x := (((b - a) / 4 * 1 : Nat) : Int)) (by rw [wrap64 (by omega) (by omega)]; omega) ?_
 refine nEq (x := ((a + (b - a) / 4 * 1 : Nat) : Int)) (by rw [wrap64 (by omega) (by omega)]; omega) ?_
 refine need_intro (by decide) ?_
 refine nEq (x := (((b - a) / 4 : Nat) : Int)) (by rw [Int.tdiv_eq_ediv_of_nonneg (by omega), wrap64 (by omega) (by omega)]; omega) ?_
 refine nEq (x := (((b - a) / 4 * 2 : Nat) : Int)) (by rw [wrap64 (by omega) (by omega)]; omega) ?_
 refine nEq (x := ((a + (b - a) / 4 * 2 : Nat) : Int)) (by rw [wrap64 (by omega) (by omega)]; omega) ?_
 refine need_intro (by decide) ?_
 refine nEq (x := (((b - a) / 4 : Nat) : Int)) (by rw [Int.tdiv_eq_ediv_of_nonneg (by omega), wrap64 (by omega) (by omega)]; omega) ?_
 refine nEq (x := (((b - a) / 4 * 3 : Nat) : Int)) (by rw [wrap64 (by omega) (by omega)]; omega) ?_
 refine nEq (x := ((a + (b - a) / 4 * 3 : Nat) : Int)) (by rw [wrap64 (by omega) (by omega)]; omega) ?_
 refine ifd (fun h8 => ?_) (fun h8 => ?_)
 ·refine ifd (fun h50 => ?_) (fun h50 => ?_)
  ·refine cOw (medianAdjacent_spec (a := a + (b - a) / 4 * 1) hne hd (by omega) (by omega) hn) fun v μ' h' hle hap hR => ?_
   obtain ⟨x1, o1, rfl, e1, s1, rfl⟩ := hR
   obtain rfl := e1.symm
   refine cOw (medianAdjacent_spec (a := a + (b - a) / 4 * 2) hne hd (by omega) (by omega) hn) fun v μ' h' hle hap hR => ?_
   obtain ⟨x2, o2, rfl, e1, s2, rfl⟩ := hR
   obtain rfl := e1.symm
   refine cOw (medianAdjacent_spec (a := a + (b - a) / 4 * 3) hne hd (by omega) (by omega) hn) fun v μ' h' hle hap hR => ?_
   obtain ⟨x3, o3, rfl, e1, s3, rfl⟩ := hR
   obtain rfl := e1.symm
   refine cOw (median_spec (a := x1) (b := x2) (c := x3) hne hd (by omega) (by omega) (by omega)) fun v μ' h' hle hap hR => ?_
   obtain ⟨x4, o4, rfl, e1, s4, rfl⟩ := hR
   obtain rfl := e1.symm
   refine rdS hne ?_
   refine ifd (fun h1 => ?_) (fun h1 => ?_)
   ·exact ret_own _ _ (RowS.parts hne hs0) ⟨x4, 1, by omega, by omega, by omega, rfl, rfl⟩
   refine ifd (fun h1 => ?_) (fun h1 => ?_)
   ·exact ret_own _ _ (RowS.parts hne hs0) ⟨x4, 2, by omega, by omega, by omega, rfl, rfl⟩
   exact ret_own _ _ (RowS.parts hne hs0) ⟨x4, 0, by omega, by omega, by omega, rfl, rfl⟩
  ·refine cOw (median_spec (a := a + (b - a) / 4 * 1) (b := a + (b - a) / 4 * 2) (c := a + (b - a) / 4 * 3) hne hd (by omega) (by omega) (by omega)) fun v μ' h' hle hap hR => ?_
   obtain ⟨x4, o4, rfl, e1, s4, rfl⟩ := hR
   obtain rfl := e1.symm
   refine rdS hne ?_
   refine ifd (fun h1 => ?_) (fun h1 => ?_)
   ·exact ret_own _ _ (RowS.parts hne hs0) ⟨x4, 1, by omega, by omega, by omega, rfl, rfl⟩
   refine ifd (fun h1 => ?_) (fun h1 => ?_)
   ·exact ret_own _ _ (RowS.parts hne hs0) ⟨x4, 2, by omega, by omega, by omega, rfl, rfl⟩
   exact ret_own _ _ (RowS.parts hne hs0) ⟨x4, 0, by omega, by omega, by omega, rfl, rfl⟩
 ·refine rdS hne ?_
  refine ifd (fun h1 => ?_) (fun h1 => ?_)
  ·exact ret_own _ _ (RowS.parts hne hs0) ⟨a + (b - a) / 4 * 2, 1, by omega, by omega, by omega, rfl, rfl⟩
  refine ifd (fun h1 => ?_) (fun h1 => ?_)
  ·exact ret_own _ _ (RowS.parts hne hs0) ⟨a + (b - a) / 4 * 2, 2, by omega, by omega, by omega, rfl, rfl⟩
  exact ret_own _ _ (RowS.parts hne hs0) ⟨a + (b - a) / 4 * 2, 0, by omega, by omega, by omega, rfl, rfl⟩
end
end Go.Vx
namespace Go.Vx
open Go.Proofs Classical
open Go.Sort
theorem bitsLen_shift {x k : Nat} (h : 2 ^ k ≤ x) : bitsLen x = bitsLen (x / 2 ^ k) + k := by
 have hpos : 0 < 2 ^ k := Nat.two_pow_pos k
 apply Nat.le_antisymm
 ·rw [bitsLen_le_iff, Nat.pow_add]
  have := lt_two_pow_bitsLen (x / 2 ^ k)
  rw [Nat.div_lt_iff_lt_mul hpos] at this
  exact this
 ·have h1 : k < bitsLen x := by
   rcases Nat.lt_or_ge k (bitsLen x) with h2 | h2
   ·exact h2
   ·have := (bitsLen_le_iff x k).1 h2; omega
  have h3 : bitsLen (x / 2 ^ k) ≤ bitsLen x - k := by
   rw [bitsLen_le_iff, Nat.div_lt_iff_lt_mul hpos, ← Nat.pow_add]
   have : bitsLen x - k + k = bitsLen x := by omega
   rw [this]; exact lt_two_pow_bitsLen x
  omega
section
variable {μ : Mem}
theorem Len64_spec {x : Nat} (hx : x < 18446744073709551616) : Gives Tryz.prog 284 [.int .u64 x] μ (.int .i64 (bitsLen x)) := by
 obtain ⟨L, hL⟩ : ∃ L, L = bitsLen x := ⟨_, rfl⟩
 rw [← hL]
 refine Spec.mk Tryz.func284 (by kernel_rfl) ?_
 refine ifd (fun h1 => ?_) (fun h1 => ?_)
 ·refine need_intro (by decide) ?_
  refine nEq (x := ((x / 4294967296 : Nat) : Int)) (by
   show (x : Int).fdiv 4294967296 = _
   rw [Int.fdiv_eq_ediv_of_nonneg _ (by decide)]; rfl) ?_
  have b1 : bitsLen x = bitsLen (x / 4294967296) + 32 := bitsLen_shift (k := 32) (by omega)
  have b2 : x / 4294967296 < 4294967296 := by omega
  generalize x / 4294967296 = y at *
  refine ifd (fun h2 => ?_) (fun h2 => ?_)
  ·refine need_intro (by decide) ?_
   refine nEq (x := ((y / 65536 : Nat) : Int)) (by
    show (y : Int).fdiv 65536 = _
    rw [Int.fdiv_eq_ediv_of_nonneg _ (by decide)]; rfl) ?_
   have b3 : bitsLen y = bitsLen (y / 65536) + 16 := bitsLen_shift (k := 16) (by omega)
   have b4 : y / 65536 < 65536 := by omega
   generalize y / 65536 = z at *
   refine nEq (x := 32 + 16) (by decide) ?_
   refine ifd (fun h3 => ?_) (fun h3 => ?_)
   ·refine need_intro (by decide) ?_
    refine nEq (x := ((z / 256 : Nat) : Int)) (by
     show (z : Int).fdiv 256 = _
     rw [Int.fdiv_eq_ediv_of_nonneg _ (by decide)]; rfl) ?_
    have b5 : bitsLen z = bitsLen (z / 256) + 8 := bitsLen_shift (k := 8) (by omega)
    have b6 : z / 256 < 256 := by omega
    generalize z / 256 = w at *
    refine nEq (x := 32 + 16 + 8) (by decide) ?_
    have b7 : bitsLen w ≤ 8 := (bitsLen_le_iff w 8).2 b6
    refine nEq (x := (w : Int)) (by
     show (w : Int) % 256 = _
     omega) ?_
    refine byte_intro w (UInt8.ofNat (bitsLen w)) rfl ?_ ?_
    ·clear b5 b7
     try clear hw
     revert w
     decide +kernel
    refine nEq (x := (bitsLen w : Int)) (by
     rw [UInt8.toNat_ofNat', Nat.mod_eq_of_lt (by omega), wrap64 (by omega) (by omega)]) ?_
    refine nEq (x := (L : Int)) (by rw [wrap64 (by omega) (by omega)]; omega) ?_
    exact rGv rfl rfl
   ·obtain ⟨w, hw⟩ : ∃ w, w = z := ⟨_, rfl⟩
    have b5 : bitsLen z = bitsLen w + 0 := by rw [hw]; rfl
    have b6 : w < 256 := by omega
    rw [← hw]
    have b7 : bitsLen w ≤ 8 := (bitsLen_le_iff w 8).2 b6
    refine nEq (x := (w : Int)) (by
     show (w : Int) % 256 = _
     omega) ?_
    refine byte_intro w (UInt8.ofNat (bitsLen w)) rfl ?_ ?_
    ·clear b5 b7
     try clear hw
     revert w
     decide +kernel
    refine nEq (x := (bitsLen w : Int)) (by
     rw [UInt8.toNat_ofNat', Nat.mod_eq_of_lt (by omega), wrap64 (by omega) (by omega)]) ?_
    refine nEq (x := (L : Int)) (by rw [wrap64 (by omega) (by omega)]; omega) ?_
    exact rGv rfl rfl
  ·obtain ⟨z, hz⟩ : ∃ z, z = y := ⟨_, rfl⟩
   have b3 : bitsLen y = bitsLen z + 0 := by rw [hz]; rfl
   have b4 : z < 65536 := by omega
   rw [← hz]
   refine ifd (fun h3 => ?_) (fun h3 => ?_)
   ·refine need_intro (by decide) ?_
    refine nEq (x := ((z / 256 : Nat) : Int)) (by
     show (z : Int).fdiv 256 = _
     rw [Int.fdiv_eq_ediv_of_nonneg _ (by decide)]; rfl) ?_
    have b5 : bitsLen z = bitsLen (z / 256) + 8 := bitsLen_shift (k := 8) (by omega)
    have b6 : z / 256 < 256 := by omega
    generalize z / 256 = w at *
    refine nEq (x := 32 + 8) (by decide) ?_
    have b7 : bitsLen w ≤ 8 := (bitsLen_le_iff w 8).2 b6
    refine nEq (x := (w : Int)) (by
     show (w : Int) % 256 = _
     omega) ?_
    refine byte_intro w (UInt8.ofNat (bitsLen w)) rfl ?_ ?_
    ·clear b5 b7
     try clear hw
     revert w
     decide +kernel
    refine nEq (x := (bitsLen w : Int)) (by
     rw [UInt8.toNat_ofNat', Nat.mod_eq_of_lt (by omega), wrap64 (by omega) (by omega)]) ?_
    refine nEq (x := (L : Int)) (by rw [wrap64 (by omega) (by omega)]; omega) ?_
    exact rGv rfl rfl
   ·obtain ⟨w, hw⟩ : ∃ w, w = z := ⟨_, rfl⟩
    have b5 : bitsLen z = bitsLen w + 0 := by rw [hw]; rfl
    have b6 : w < 256 := by omega
    rw [← hw]
    have b7 : bitsLen w ≤ 8 := (bitsLen_le_iff w 8).2 b6
    refine nEq (x := (w : Int)) (by
     show (w : Int) % 256 = _
     omega) ?_
    refine byte_intro w (UInt8.ofNat (bitsLen w)) rfl ?_ ?_
    ·clear b5 b7
     try clear hw
     revert w
     decide +kernel
    refine nEq (x := (bitsLen w : Int)) (by
     rw [UInt8.toNat_ofNat', Nat.mod_eq_of_lt (by omega), wrap64 (by omega) (by omega)]) ?_
    refine nEq (x := (L : Int)) (by rw [wrap64 (by omega) (by omega)]; omega) ?_
    exact rGv rfl rfl
 ·obtain ⟨y, hy⟩ : ∃ y, y = x := ⟨_, rfl⟩
  have b1 : bitsLen x = bitsLen y + 0 := by rw [hy]; rfl
  have b2 : y < 4294967296 := by omega
  rw [← hy]
  refine ifd (fun h2 => ?_) (fun h2 => ?_)
  ·refine need_intro (by decide) ?_
   refine nEq (x := ((y / 65536 : Nat) : Int)) (by
    show (y : Int).fdiv 65536 = _
    rw [Int.fdiv_eq_ediv_of_nonneg _ (by decide)]; rfl) ?_
   have b3 : bitsLen y = bitsLen (y / 65536) + 16 := bitsLen_shift (k := 16) (by omega)
   have b4 : y / 65536 < 65536 := by omega
   generalize y / 65536 = z at *
   refine nEq (x := 0 + 16) (by decide) ?_
   refine ifd (fun h3 => ?_) (fun h3 => ?_)
   ·refine need_intro (by decide) ?_
    refine nEq (x := ((z / 256 : Nat) : Int)) (by
     show (z : Int).fdiv 256 = _
     rw [Int.fdiv_eq_ediv_of_nonneg _ (by decide)]; rfl) ?_
    have b5 : bitsLen z = bitsLen (z / 256) + 8 := bitsLen_shift (k := 8) (by omega)
    have b6 : z / 256 < 256 := by omega
    generalize z / 256 = w at *
    refine nEq (x := 0 + 16 + 8) (by decide) ?_
    have b7 : bitsLen w ≤ 8 := (bitsLen_le_iff w 8).2 b6
    refine nEq (x := (w : Int)) (by
     show (w : Int) % 256 = _
     omega) ?_
    refine byte_intro w (UInt8.ofNat (bitsLen w)) rfl ?_ ?_
    ·clear b5 b7
     try clear hw
     revert w
     decide +kernel
    refine nEq (x := (bitsLen w : Int)) (by
     rw [UInt8.toNat_ofNat', Nat.mod_eq_of_lt (by omega), wrap64 (by omega) (by omega)]) ?_
    refine nEq (x := (L : Int)) (by rw [wrap64 (by omega) (by omega)]; omega) ?_
    exact rGv rfl rfl
   ·obtain ⟨w, hw⟩ : ∃ w, w = z := ⟨_, rfl⟩
    have b5 : bitsLen z = bitsLen w + 0 := by rw [hw]; rfl
    have b6 : w < 256 := by omega
    rw [← hw]
    have b7 : bitsLen w ≤ 8 := (bitsLen_le_iff w 8).2 b6
    refine nEq (x := (w : Int)) (by
     show (w : Int) % 256 = _
     omega) ?_
    refine byte_intro w (UInt8.ofNat (bitsLen w)) rfl ?_ ?_
    ·clear b5 b7
     try clear hw
     revert w
     decide +kernel
    refine nEq (x := (bitsLen w : Int)) (by
     rw [UInt8.toNat_ofNat', Nat.mod_eq_of_lt (by omega), wrap64 (by omega) (by omega)]) ?_
    refine nEq (x := (L : Int)) (by rw [wrap64 (by omega) (by omega)]; omega) ?_
    exact rGv rfl rfl
  ·obtain ⟨z, hz⟩ : ∃ z, z = y := ⟨_, rfl⟩
   have b3 : bitsLen y = bitsLen z + 0 := by rw [hz]; rfl
   have b4 : z < 65536 := by omega
   rw [← hz]
   refine ifd (fun h3 => ?_) (fun h3 => ?_)
   ·refine need_intro (by decide) ?_
    refine nEq (x := ((z / 256 : Nat) : Int)) (by
     show (z : Int).fdiv 256 = _
     rw [Int.fdiv_eq_ediv_of_nonneg _ (by decide)]; rfl) ?_
    have b5 : bitsLen z = bitsLen (z / 256) + 8 := bitsLen_shift (k := 8) (by omega)
    have b6 : z / 256 < 256 := by omega
    generalize z / 256 = w at *
    refine nEq (x := 0 + 8) (by decide) ?_
    have b7 : bitsLen w ≤ 8 := (bitsLen_le_iff w 8).2 b6
    refine nEq (x := (w : Int)) (by
     show (w : Int) % 256 = _
     omega) ?_
    refine byte_intro w (UInt8.ofNat (bitsLen w)) rfl ?_ ?_
    ·clear b5 b7
     try clear hw
     revert w
     decide +kernel
    refine nEq (x := (bitsLen w : Int)) (by
     rw [UInt8.toNat_ofNat', Nat.mod_eq_of_lt (by omega), wrap64 (by omega) (by omega)]) ?_
    refine nEq (x := (L : Int)) (by rw [wrap64 (by omega) (by omega)]; omega) ?_
    exact rGv rfl rfl
   ·obtain ⟨w, hw⟩ : ∃ w, w = z := ⟨_, rfl⟩
    have b5 : bitsLen z = bitsLen w + 0 := by rw [hw]; rfl
    have b6 : w < 256 := by omega
    rw [← hw]
    have b7 : bitsLen w ≤ 8 := (bitsLen_le_iff w 8).2 b6
    refine nEq (x := (w : Int)) (by
     show (w : Int) % 256 = _
     omega) ?_
    refine byte_intro w (UInt8.ofNat (bitsLen w)) rfl ?_ ?_
    ·clear b5 b7
     try clear hw
     revert w
     decide +kernel
    refine nEq (x := (bitsLen w : Int)) (by
     rw [UInt8.toNat_ofNat', Nat.mod_eq_of_lt (by omega), wrap64 (by omega) (by omega)]) ?_
    refine nEq (x := (L : Int)) (by rw [wrap64 (by omega) (by omega)]; omega) ?_
    exact rGv rfl rfl
theorem Len_spec {x : Nat} (hx : x < 18446744073709551616) : Gives Tryz.prog 261 [.int .u64 x] μ (.int .i64 (bitsLen x)) := by
 refine Spec.mk Tryz.func261 (by kernel_rfl) ?_
 refine cGv (Len64_spec hx) ?_
 exact rGv rfl rfl
theorem and_le {x m : Int} (h0 : 0 ≤ m) (h1 : m < 18446744073709551616) : 0 ≤ bits .and .u64 x m ∧ bits .and .u64 x m ≤ m := by
 have e : bits .and .u64 x m = (((BitVec.ofInt 64 x &&& BitVec.ofInt 64 m).toNat : Nat) : Int) % 18446744073709551616 := rfl
 have h2 : (BitVec.ofInt 64 m).toNat = m.toNat := by
  rw [BitVec.toNat_ofInt]
  congr 1
  exact Int.emod_eq_of_lt h0 h1
 have h3 : (BitVec.ofInt 64 x &&& BitVec.ofInt 64 m).toNat ≤ m.toNat := by
  rw [BitVec.toNat_and, h2]
  exact Nat.and_le_right
 rw [e]
 omega
end
end Go.Vx
namespace Go.Vx
open Go.Proofs Classical
open Go.Sort
section
variable {μ h0 : Mem} {r rs : Nat} {ty : TypeId} {rest : List Value} {d : Array Int} {s : Int}
theorem nextPowerOfTwo_spec {x : Nat} (hx : x ≤ 1000000000000) : Gives Tryz.prog 287 [.int .i64 x] μ (.int .u64 ((2 ^ bitsLen x : Nat) : Int)) := by
 refine Spec.mk Tryz.func287 (by kernel_rfl) ?_
 have h1 : bitsLen x ≤ 40 := (bitsLen_le_iff x 40).2 (by omega)
 have h2 : 2 ^ bitsLen x ≤ 2 ^ 40 := Nat.pow_le_pow_right (by decide) h1
 have h3 : (2 : Nat) ^ 40 = 1099511627776 := by decide
 refine nEq (x := (x : Int)) (by
  show (x : Int) % 18446744073709551616 = _
  omega) ?_
 refine cGv (Len_spec (by omega)) ?_
 refine need_intro (by omega) ?_
 refine nEq (x := ((2 ^ bitsLen x : Nat) : Int)) (by
  have e : min ((bitsLen x : Int).toNat) IntKind.u64.bits = bitsLen x := by
   show min ((bitsLen x : Int).toNat) 64 = bitsLen x
   omega
  rw [e]
  have h4 : ((2 : Int) ^ bitsLen x) = ((2 ^ bitsLen x : Nat) : Int) := by rw [Int.natCast_pow]; rfl
  show (1 * (2 : Int) ^ bitsLen x) % 18446744073709551616 = _
  rw [Int.one_mul, h4]
  generalize 2 ^ bitsLen x = P at *
  omega) ?_
 exact rGv rfl rfl
def RowX (h0 : Mem) (r : Nat) (ty : TypeId) (rest : List Value) (d : Array Int) (rs : Nat) (s : Int) : Mem := RowI (h0.set rs (.cells #[.int .u64 s] 268 (0, 0))) r ty rest d
theorem RowX.at (hne : rs ≠ r) : RowX h0 r ty rest d rs s rs = some (.cells #[.int .u64 s] 268 (0, 0)) := by
 rw [RowX, RowI, Mem.set_ne hne, Mem.set_at]
theorem rdX {K : List Value → Prop} (hne : rs ≠ r) (h : K [.int .u64 s]) : extVC μ (RowX h0 r ty rest d rs s) ⟨rs, 0, none⟩ 1 K := oIn _ rfl (box_at (RowX.at hne)) h
theorem wrX {v : Int} {K : Mem → Prop} (hne : rs ≠ r) (h : K (RowX h0 r ty rest d rs v)) : stoVC (RowX h0 r ty rest d rs s) ⟨rs, 0, none⟩ [.int .u64 v] K := by
 refine sIn [.int .u64 s] 268 (RowX.at hne) rfl (Nat.le_refl _) ?_
 have e : Mem.set (RowX h0 r ty rest d rs s) rs (.cells #[.int .u64 v] 268 (0, 0)) = RowX h0 r ty rest d rs v := by
  rw [RowX, RowI, Mem.set_comm (fun e => hne e.symm), Mem.set_set]
  rfl
 show K (Mem.set (RowX h0 r ty rest d rs s) rs (.cells #[.int .u64 v] 268 (0, 0)))
 rw [e]; exact h
theorem RowX.parts (hne : rs ≠ r) (hs : h0 rs = none) : Parts (RowX h0 r ty rest d rs s) (Mem.nil.set rs (.cells #[.int .u64 s] 268 (0, 0))) (RowI h0 r ty rest d) := fun b => by
 by_cases h : b = rs
 ·subst h
  exact .inl ⟨by rw [RowX.at hne, Mem.set_at], by rw [RowI, Mem.set_ne hne]; exact hs⟩
 ·refine .inr ⟨?_, by rw [Mem.set_ne h]; rfl⟩
  rw [RowX, RowI, RowI]
  by_cases h2 : b = r
  ·subst h2; rw [Mem.set_at, Mem.set_at]
  ·rw [Mem.set_ne h2, Mem.set_ne h2, Mem.set_ne h]
theorem Next_spec (hne : rs ≠ r) : SpecH Tryz.prog 288 [.pointer (some ⟨rs, 0, none⟩)] μ (RowX h0 r ty rest d rs s) fun v μ' h' => ∃ s', v = .int .u64 s' ∧ μ' = μ ∧ h' = RowX h0 r ty rest d rs s' := by
 refine SpecH.mk [] Tryz.func288 (by kernel_rfl) ?_
 refine rdX hne ?_
 refine rdX hne ?_
 refine need_intro (by decide) ?_
 refine num_intro fun _ _ => ?_
 refine num_intro fun _ _ => ?_
 refine wrX hne ?_
 refine rdX hne ?_
 refine rdX hne ?_
 refine need_intro (by decide) ?_
 refine num_intro fun _ _ => ?_
 refine num_intro fun _ _ => ?_
 refine wrX hne ?_
 refine rdX hne ?_
 refine rdX hne ?_
 refine need_intro (by decide) ?_
 refine num_intro fun _ _ => ?_
 refine num_intro fun _ _ => ?_
 refine wrX hne ?_
 refine rdX hne ?_
 exact rPl ⟨_, rfl, rfl, rfl⟩
theorem breakPatterns_spec {n a b cap : Nat} (hr : h0 r = none) (hd : d.size = n) (ha : a + 8 ≤ b) (hb : b ≤ n) (hn : n ≤ 1000000000000) :
  SpecH Tryz.prog 276 [.slice (some ⟨r, 0, none⟩) n cap, .int .i64 a, .int .i64 b] μ (RowI h0 r ty rest d) fun v _μ' h' => v = .tuple #[] ∧ ∃ d', PermIn a b d d' ∧ h' = RowI h0 r ty rest d' := by
 refine SpecH.mk [7] Tryz.func276 (by kernel_rfl) ?_
 refine nEq (x := ((b - a : Nat) : Int)) (by rw [wrap64 (by omega) (by omega)]; omega) ?_
 refine ifd (fun h8 => ?_) (fun h8 => by omega)
 refine num_intro fun s0 _ => ?_
 intro rs hm ho
 have hne : rs ≠ r := fun e => by
  subst e
  have : RowI h0 rs ty rest d rs = none := ho
  rw [RowI, Mem.set_at] at this; cases this
 have hs0 : h0 rs = none := by
  have : RowI h0 r ty rest d rs = none := ho
  rwa [RowI, Mem.set_ne hne] at this
 have e0 : Mem.set (RowI h0 r ty rest d) rs (.cells #[.int .u64 0] 268 (0, 0)) = RowX h0 r ty rest d rs 0 := by
  rw [RowX, RowI, RowI, Mem.set_comm (fun e => hne e.symm)]
 generalize hH : Mem.set (RowI h0 r ty rest d) rs _ = H
 obtain rfl : H = RowX h0 r ty rest d rs 0 := hH.symm.trans e0
 clear e0 hH ho hm
 refine wrX hne ?_
 refine cGv (nextPowerOfTwo_spec (x := b - a) (by omega)) ?_
 have hP1 : 1 ≤ 2 ^ bitsLen (b - a) := Nat.two_pow_pos _
 have hP2 : 2 ^ bitsLen (b - a) ≤ 2 * (b - a) := two_pow_bitsLen_le (by omega)
 generalize 2 ^ bitsLen (b - a) = P at *
 refine need_intro (by decide) ?_
 refine nEq (x := (((b - a) / 4 : Nat) : Int)) (by rw [Int.tdiv_eq_ediv_of_nonneg (by omega), wrap64 (by omega) (by omega)]; omega) ?_
 refine nEq (x := (((b - a) / 4 * 2 : Nat) : Int)) (by rw [wrap64 (by omega) (by omega)]; omega) ?_
 refine nEq (x := ((a + (b - a) / 4 * 2 : Nat) : Int)) (by rw [wrap64 (by omega) (by omega)]; omega) ?_
 refine nEq (x := ((a + (b - a) / 4 * 2 - 1 : Nat) : Int)) (by rw [wrap64 (by omega) (by omega)]; omega) ?_
 refine lIn (fun p : Nat × Array Int × Int => a + (b - a) / 4 * 2 ≤ p.1 + 1 ∧ p.1 ≤ a + (b - a) / 4 * 2 + 2 ∧ PermIn a b d p.2.1)
  (fun (i, d, s) => ⟨[(0, .val (.slice (some ⟨r, 0, none⟩) n cap)), (1, .val (.int .i64 a)), (6, .val (.int .i64 (b - a : Nat))), (7, .val (.pointer (some ⟨rs, 0, none⟩))), (8, .val (.int .u64 P)), (9, .val (.int .i64 i))], [], 0, μ, RowX h0 r ty rest d rs s⟩) (fun p => a + (b - a) / 4 * 2 + 3 - p.1)
  (a + (b - a) / 4 * 2 - 1, d, s0) ⟨by dsimp only; omega, by dsimp only; omega, permIn_refl _ _ _⟩ (fun (_, _, _) => ⟨rfl, rfl⟩) ⟨⟨rfl, rfl, rfl, rfl, rfl, rfl, trivial⟩, trivial, rfl, rfl⟩ ?_
 rintro ⟨i, d1, s1⟩ ⟨hi1, hi2, hp⟩
 dsimp only at hi1 hi2 hp
 have hs1 : d1.size = n := hp.1.trans hd
 refine need_intro (by decide) ?_
 refine nEq (x := (((b - a) / 4 : Nat) : Int)) (by rw [Int.tdiv_eq_ediv_of_nonneg (by omega), wrap64 (by omega) (by omega)]; omega) ?_
 refine nEq (x := (((b - a) / 4 * 2 : Nat) : Int)) (by rw [wrap64 (by omega) (by omega)]; omega) ?_
 refine nEq (x := ((a + (b - a) / 4 * 2 : Nat) : Int)) (by rw [wrap64 (by omega) (by omega)]; omega) ?_
 refine nEq (x := ((a + (b - a) / 4 * 2 + 1 : Nat) : Int)) (by rw [wrap64 (by omega) (by omega)]; omega) ?_
 refine ifd (fun hle => ?_) (fun hle => ?_)
 rotate_left
 ·exact ret_own _ _ (RowX.parts hne hs0) ⟨rfl, d1, hp, rfl⟩
 refine cOw (Next_spec hne) fun v μ' h' hle' hap hR => ?_
 obtain ⟨s2, rfl, e1, rfl⟩ := hR
 obtain rfl := e1.symm
 refine nEq (x := ((P - 1 : Nat) : Int)) (by
  show ((P : Int) - 1) % 18446744073709551616 = _
  omega) ?_
 refine num_intro fun y hy => ?_
 have w_ := and_le (x := s2) (m := ((P - 1 : Nat) : Int)) (by omega) (by omega)
 obtain ⟨hy1, hy2⟩ := w_
 rw [← hy] at hy1 hy2
 have w_ := Int.eq_ofNat_of_zero_le hy1
 obtain ⟨o, rfl⟩ := w_
 clear hy
 refine nEq (x := (o : Int)) (wrap64 (by omega) (by omega)) ?_
 refine ifd (fun ho => ?_) (fun ho => ?_)
 ·refine nEq (x := ((o - (b - a) : Nat) : Int)) (by rw [wrap64 (by omega) (by omega)]; omega) ?_
  have ho2 : o - (b - a) < b - a := by omega
  generalize o - (b - a) = q at *
  refine nEq (x := ((a + q : Nat) : Int)) (by rw [wrap64 (by omega) (by omega)]; omega) ?_
  refine nEq (x := ((a + q : Nat) : Int)) (by rw [wrap64 (by omega) (by omega)]; omega) ?_
  refine idxI (a + q) (by omega) (by omega) ?_
  refine rdI (by omega) ?_
  refine idxI (i) (by omega) (by omega) ?_
  refine rdI (by omega) ?_
  refine idxI (i) (by omega) (by omega) ?_
  refine wrI (by omega) ?_
  refine idxI (a + q) (by omega) (by omega) ?_
  refine wrI (by simp; omega) ?_
  refine nEq (x := ((i + 1 : Nat) : Int)) (by rw [wrap64 (by omega) (by omega)]; omega) ?_
  exact ⟨(i + 1, swp d1 i (a + q), s2), ⟨by dsimp only; omega, by dsimp only; omega, permIn_trans _ _ _ _ _ hp (swp_permIn d1 a b i (a + q) (by omega) (by omega) (by omega) (by omega) (by omega))⟩, by dsimp only; omega, ⟨⟨rfl, rfl, rfl, rfl, rfl, rfl, trivial⟩, trivial, rfl, rfl⟩⟩
 ·refine nEq (x := ((a + o : Nat) : Int)) (by rw [wrap64 (by omega) (by omega)]; omega) ?_
  refine nEq (x := ((a + o : Nat) : Int)) (by rw [wrap64 (by omega) (by omega)]; omega) ?_
  refine idxI (a + o) (by omega) (by omega) ?_
  refine rdI (by omega) ?_
  refine idxI (i) (by omega) (by omega) ?_
  refine rdI (by omega) ?_
  refine idxI (i) (by omega) (by omega) ?_
  refine wrI (by omega) ?_
  refine idxI (a + o) (by omega) (by omega) ?_
  refine wrI (by simp; omega) ?_
  refine nEq (x := ((i + 1 : Nat) : Int)) (by rw [wrap64 (by omega) (by omega)]; omega) ?_
  exact ⟨(i + 1, swp d1 i (a + o), s2), ⟨by dsimp only; omega, by dsimp only; omega, permIn_trans _ _ _ _ _ hp (swp_permIn d1 a b i (a + o) (by omega) (by omega) (by omega) (by omega) (by omega))⟩, by dsimp only; omega, ⟨⟨rfl, rfl, rfl, rfl, rfl, rfl, trivial⟩, trivial, rfl, rfl⟩⟩
end
end Go.Vx
namespace Go.Vx
open Go.Proofs Classical
open Go.Sort
section
variable {μ h0 : Mem} {r : Nat} {ty : TypeId} {rest : List Value} {d : Array Int}
theorem partitionEqual_spec {n a b pivot : Nat} {cap : Nat} (hd : d.size = n) (hap : a ≤ pivot) (hpb : pivot < b) (hb : b ≤ n) (hn : n ≤ 1000000000000) :
  SpecH Tryz.prog 281 [.slice (some ⟨r, 0, none⟩) n cap, .int .i64 a, .int .i64 b, .int .i64 pivot] μ (RowI h0 r ty rest d) fun v μ' h' => v = .int .i64 (partitionEqual ltInt d a b pivot).1 ∧ μ' = μ ∧ h' = RowI h0 r ty rest (partitionEqual ltInt d a b pivot).2 := by
 refine SpecH.mk [] Tryz.func281 (by kernel_rfl) ?_
 rw [partitionEqual]
 generalize hR : partEqLoop ltInt a (a + 1) (b - 1) (swp d a pivot) = R
 refine idxI (pivot) (by omega) (by omega) ?_
 refine rdI (by omega) ?_
 refine idxI (a) (by omega) (by omega) ?_
 refine rdI (by omega) ?_
 refine idxI (a) (by omega) (by omega) ?_
 refine wrI (by omega) ?_
 refine idxI (pivot) (by omega) (by omega) ?_
 refine wrI (by simp; omega) ?_
 refine nEq (x := ((a + 1 : Nat) : Int)) (by rw [wrap64 (by omega) (by omega)]; omega) ?_
 refine nEq (x := ((b - 1 : Nat) : Int)) (by rw [wrap64 (by omega) (by omega)]; omega) ?_
 refine lIn (fun p : Nat × Nat × Array Int => a < p.1 ∧ p.1 ≤ p.2.1 + 2 ∧ p.2.1 < b ∧ p.2.2.size = n ∧ partEqLoop ltInt a p.1 p.2.1 p.2.2 = R)
  (fun (i, j, d) => ⟨[(0, .val (.slice (some ⟨r, 0, none⟩) n cap)), (1, .val (.int .i64 a)), (9, .val (.int .i64 i)), (10, .val (.int .i64 j))], [], 0, μ, RowI h0 r ty rest d⟩) (fun p => p.2.1 + 1 - p.1)
  (a + 1, b - 1, swp d a pivot) ⟨by dsimp only; omega, by dsimp only; omega, by dsimp only; omega, by dsimp only; rw [Go.Sort.swp_size]; exact hd, hR⟩ (fun (_, _, _) => ⟨rfl, rfl⟩) ⟨⟨rfl, rfl, rfl, rfl, trivial⟩, trivial, rfl, rfl⟩ ?_
 clear hR
 rintro ⟨i, j, d1⟩ ⟨hai, hij0, hjb, hs, hR⟩
 dsimp only at hai hij0 hjb hs hR
 rw [partEqLoop_eq] at hR
 generalize hU : scanUp (fun x => !ltInt d1[a]! x) d1 j i = U at *
 refine lIn (fun i' : Nat => i ≤ i' ∧ i' ≤ j + 2 ∧ scanUp (fun x => !ltInt d1[a]! x) d1 j i' = U) (fun i' => ⟨[(0, .val (.slice (some ⟨r, 0, none⟩) n cap)), (1, .val (.int .i64 a)), (9, .val (.int .i64 i')), (10, .val (.int .i64 j))], [], 0, μ, RowI h0 r ty rest d1⟩) (fun i' => j + 1 - i')
  i ⟨by omega, by omega, hU⟩ (fun _ => ⟨rfl, rfl⟩) ⟨⟨rfl, rfl, rfl, rfl, trivial⟩, trivial, rfl, rfl⟩ ?_
 clear hU
 rintro i' ⟨h1, h2, hU⟩
 rw [scanUp] at hU
 refine ifd (fun hij => ?_) (fun hij => ?_)
 refine idxI (a) (by omega) (by omega) ?_
 refine rdI (by omega) ?_
 refine idxI (i') (by omega) (by omega) ?_
 refine rdI (by omega) ?_
 refine cGv (Less_spec _ _) ?_
 refine iIn (fun hl => ?_) (fun hl => ?_)
 ·rw [if_pos (by simp only [Bool.and_eq_true, decide_eq_true_eq]; exact ⟨by omega, hl⟩)] at hU
  refine nEq (x := ((i' + 1 : Nat) : Int)) (by rw [wrap64 (by omega) (by omega)]; omega) ?_
  exact ⟨i' + 1, ⟨by omega, by omega, hU⟩, by omega, ⟨⟨rfl, rfl, rfl, rfl, trivial⟩, trivial, rfl, rfl⟩⟩
 rw [if_neg (by simp only [Bool.and_eq_true, hl]; simp)] at hU
 rotate_left
 rw [if_neg (by simp; omega)] at hU
 obtain rfl := hU
 rotate_left
 obtain rfl := hU
 rotate_left
 all_goals
  generalize hV : scanDown (fun x => ltInt d1[a]! x) d1 i' j = V at *
  refine lIn (fun j' : Nat => j' ≤ j ∧ 0 ≤ j' ∧ scanDown (fun x => ltInt d1[a]! x) d1 i' j' = V) (fun j' => ⟨[(0, .val (.slice (some ⟨r, 0, none⟩) n cap)), (1, .val (.int .i64 a)), (9, .val (.int .i64 i')), (10, .val (.int .i64 j'))], [], 0, μ, RowI h0 r ty rest d1⟩) (fun j' => j')
   j ⟨by omega, by omega, hV⟩ (fun _ => ⟨rfl, rfl⟩) ⟨⟨rfl, rfl, rfl, rfl, trivial⟩, trivial, rfl, rfl⟩ ?_
  clear hV
  rintro j' ⟨g1, g2, hV⟩
  refine ifd (fun hij2 => ?_) (fun hij2 => ?_)
  obtain ⟨k, rfl⟩ : ∃ k, j' = k + 1 := ⟨j' - 1, by omega⟩
  rw [scanDown] at hV
  refine idxI (a) (by omega) (by omega) ?_
  refine rdI (by omega) ?_
  refine idxI (k + 1) (by omega) (by omega) ?_
  refine rdI (by omega) ?_
  refine cGv (Less_spec _ _) ?_
  refine iIn (fun hl => ?_) (fun hl => ?_)
  ·rw [if_pos (by simp only [Bool.and_eq_true, decide_eq_true_eq]; exact ⟨by omega, hl⟩)] at hV
   refine nEq (x := ((k : Nat) : Int)) (by rw [wrap64 (by omega) (by omega)]; omega) ?_
   exact ⟨k, ⟨by omega, by omega, hV⟩, by omega, ⟨⟨rfl, rfl, rfl, rfl, trivial⟩, trivial, rfl, rfl⟩⟩
  rw [if_neg (by simp only [Bool.and_eq_true, hl]; simp)] at hV
  obtain rfl := hV
  generalize k + 1 = j' at *
  rotate_left
  replace hV : j' = V := by
   cases j' with
   | zero => exact hV
   | succ k => rwa [scanDown, if_neg (by simp; omega)] at hV
  obtain rfl := hV
  rotate_left
 all_goals
  refine ifd (fun hgt => ?_) (fun hgt => ?_)
  ·rw [if_pos (by omega)] at hR
   subst hR
   exact rPl ⟨rfl, rfl, rfl⟩
  ·rw [if_neg (by omega)] at hR
   refine idxI (j') (by omega) (by omega) ?_
   refine rdI (by omega) ?_
   refine idxI (i') (by omega) (by omega) ?_
   refine rdI (by omega) ?_
   refine idxI (i') (by omega) (by omega) ?_
   refine wrI (by omega) ?_
   refine idxI (j') (by omega) (by omega) ?_
   refine wrI (by simp; omega) ?_
   refine nEq (x := ((i' + 1 : Nat) : Int)) (by rw [wrap64 (by omega) (by omega)]; omega) ?_
   refine nEq (x := ((j' - 1 : Nat) : Int)) (by rw [wrap64 (by omega) (by omega)]; omega) ?_
   exact ⟨(i' + 1, j' - 1, swp d1 i' j'), ⟨by dsimp only; omega, by dsimp only; omega, by dsimp only; omega, by dsimp only; rw [Go.Sort.swp_size]; exact hs, hR⟩, by dsimp only; omega, ⟨⟨rfl, rfl, rfl, rfl, trivial⟩, trivial, rfl, rfl⟩⟩
set_option maxHeartbeats 4000000 in
theorem partition_spec {n a b pivot : Nat} {cap : Nat} (hd : d.size = n) (hap : a ≤ pivot) (hpb : pivot < b) (hb : b ≤ n) (hn : n ≤ 1000000000000) :
  SpecH Tryz.prog 282 [.slice (some ⟨r, 0, none⟩) n cap, .int .i64 a, .int .i64 b, .int .i64 pivot] μ (RowI h0 r ty rest d) fun v μ' h' => (∃ ap, v = .tuple #[.int .i64 (partition ltInt d a b pivot).1, .bool ap]) ∧ μ' = μ ∧ h' = RowI h0 r ty rest (partition ltInt d a b pivot).2.2 := by
 refine SpecH.mk [] Tryz.func282 (by kernel_rfl) ?_
 rw [partition_fst, partition_arr]
 have hsz : ∀ m i j (d : Array Int), j + 1 - i ≤ m → (partLoop ltInt a i j d).2.size = d.size := fun m => by
  induction m with
  | zero =>
   intro i j d h
   rw [partLoop_eq]
   have h1 := scanUp_ge (fun x => ltInt x d[a]!) d j i
   have h2 := scanDown_le (fun x => !ltInt x d[a]!) d (scanUp (fun x => ltInt x d[a]!) d j i) j
   rw [if_pos (by omega)]
  | succ m ih =>
   intro i j d h
   rw [partLoop_eq]
   split
   ·rfl
   ·rename_i hg
    have := partLoop_guard ltInt a i j d hg
    rw [ih _ _ _ (by omega), Go.Sort.swp_size]
 have hRs := hsz _ (a + 1) (b - 1) (swp d a pivot) (Nat.le_refl _)
 rw [Go.Sort.swp_size] at hRs
 generalize hR : partLoop ltInt a (a + 1) (b - 1) (swp d a pivot) = R at *
 refine idxI (pivot) (by omega) (by omega) ?_
 refine rdI (by omega) ?_
 refine idxI (a) (by omega) (by omega) ?_
 refine rdI (by omega) ?_
 refine idxI (a) (by omega) (by omega) ?_
 refine wrI (by omega) ?_
 refine idxI (pivot) (by omega) (by omega) ?_
 refine wrI (by simp; omega) ?_
 refine nEq (x := ((a + 1 : Nat) : Int)) (by rw [wrap64 (by omega) (by omega)]; omega) ?_
 refine nEq (x := ((b - 1 : Nat) : Int)) (by rw [wrap64 (by omega) (by omega)]; omega) ?_
 have hs : (swp d a pivot).size = n := by rw [Go.Sort.swp_size]; exact hd
 have hsw : swp d a pivot = (d.setIfInBounds a d[pivot]!).setIfInBounds pivot d[a]! := rfl
 rw [hsw] at hR hs
 generalize (d.setIfInBounds a d[pivot]!).setIfInBounds pivot d[a]! = d1 at *
 clear hsw hsz
 obtain ⟨i, hi⟩ : ∃ i, i = a + 1 := ⟨_, rfl⟩
 obtain ⟨j, hj⟩ : ∃ j, j = b - 1 := ⟨_, rfl⟩
 have hai : a < i := by omega
 have hij0 : i ≤ j + 2 := by omega
 have hjb : j < b := by omega
 rw [← hi, ← hj] at hR ⊢
 clear hi hj
 rw [partLoop_eq] at hR
 generalize hU : scanUp (fun x => ltInt x d1[a]!) d1 j i = U at *
 refine lIn (fun i' : Nat => i ≤ i' ∧ i' ≤ j + 2 ∧ scanUp (fun x => ltInt x d1[a]!) d1 j i' = U) (fun i' => ⟨[(0, .val (.slice (some ⟨r, 0, none⟩) n cap)), (1, .val (.int .i64 a)), (10, .val (.int .i64 i')), (11, .val (.int .i64 j))], [], 0, μ, RowI h0 r ty rest d1⟩) (fun i' => j + 1 - i')
  i ⟨by omega, by omega, hU⟩ (fun _ => ⟨rfl, rfl⟩) ⟨⟨rfl, rfl, rfl, rfl, trivial⟩, trivial, rfl, rfl⟩ ?_
 clear hU
 rintro i' ⟨h1, h2, hU⟩
 rw [scanUp] at hU
 refine ifd (fun hij => ?_) (fun hij => ?_)
 refine idxI (i') (by omega) (by omega) ?_
 refine rdI (by omega) ?_
 refine idxI (a) (by omega) (by omega) ?_
 refine rdI (by omega) ?_
 refine cGv (Less_spec _ _) ?_
 refine iIn (fun hl => ?_) (fun hl => ?_)
 ·rw [if_pos (by simp only [Bool.and_eq_true, decide_eq_true_eq]; exact ⟨by omega, hl⟩)] at hU
  refine nEq (x := ((i' + 1 : Nat) : Int)) (by rw [wrap64 (by omega) (by omega)]; omega) ?_
  exact ⟨i' + 1, ⟨by omega, by omega, hU⟩, by omega, ⟨⟨rfl, rfl, rfl, rfl, trivial⟩, trivial, rfl, rfl⟩⟩
 rw [if_neg (by simp only [Bool.and_eq_true, hl]; simp)] at hU
 rotate_left
 rw [if_neg (by simp; omega)] at hU
 obtain rfl := hU
 rotate_left
 obtain rfl := hU
 rotate_left
 all_goals
  generalize hV : scanDown (fun x => !ltInt x d1[a]!) d1 i' j = V at *
  refine lIn (fun j' : Nat => j' ≤ j ∧ 0 ≤ j' ∧ scanDown (fun x => !ltInt x d1[a]!) d1 i' j' = V) (fun j' => ⟨[(0, .val (.slice (some ⟨r, 0, none⟩) n cap)), (1, .val (.int .i64 a)), (10, .val (.int .i64 i')), (11, .val (.int .i64 j'))], [], 0, μ, RowI h0 r ty rest d1⟩) (fun j' => j')
   j ⟨by omega, by omega, hV⟩ (fun _ => ⟨rfl, rfl⟩) ⟨⟨rfl, rfl, rfl, rfl, trivial⟩, trivial, rfl, rfl⟩ ?_
  clear hV
  rintro j' ⟨g1, g2, hV⟩
  refine ifd (fun hij2 => ?_) (fun hij2 => ?_)
  obtain ⟨k, rfl⟩ : ∃ k, j' = k + 1 := ⟨j' - 1, by omega⟩
  rw [scanDown] at hV
  refine idxI (k + 1) (by omega) (by omega) ?_
  refine rdI (by omega) ?_
  refine idxI (a) (by omega) (by omega) ?_
  refine rdI (by omega) ?_
  refine cGv (Less_spec _ _) ?_
  refine iIn (fun hl => ?_) (fun hl => ?_)
  ·rw [if_pos (by simp only [Bool.and_eq_true, decide_eq_true_eq]; exact ⟨by omega, hl⟩)] at hV
   refine nEq (x := ((k : Nat) : Int)) (by rw [wrap64 (by omega) (by omega)]; omega) ?_
   exact ⟨k, ⟨by omega, by omega, hV⟩, by omega, ⟨⟨rfl, rfl, rfl, rfl, trivial⟩, trivial, rfl, rfl⟩⟩
  rw [if_neg (by simp only [Bool.and_eq_true, hl]; simp)] at hV
  obtain rfl := hV
  generalize k + 1 = j' at *
  rotate_left
  replace hV : j' = V := by
   cases j' with
   | zero => exact hV
   | succ k => rwa [scanDown, if_neg (by simp; omega)] at hV
  obtain rfl := hV
  rotate_left
 all_goals
  refine ifd (fun hgt => ?_) (fun hgt => ?_)
  ·rw [if_pos (by omega)] at hR
   subst hR
   refine idxI (a) (by omega) (by omega) ?_
   refine rdI (by omega) ?_
   refine idxI (j') (by omega) (by omega) ?_
   refine rdI (by omega) ?_
   refine idxI (j') (by omega) (by omega) ?_
   refine wrI (by omega) ?_
   refine idxI (a) (by omega) (by omega) ?_
   refine wrI (by simp; omega) ?_
   exact rPl ⟨⟨_, rfl⟩, rfl, rfl⟩
  ·rw [if_neg (by omega)] at hR
   refine idxI (j') (by omega) (by omega) ?_
   refine rdI (by omega) ?_
   refine idxI (i') (by omega) (by omega) ?_
   refine rdI (by omega) ?_
   refine idxI (i') (by omega) (by omega) ?_
   refine wrI (by omega) ?_
   refine idxI (j') (by omega) (by omega) ?_
   refine wrI (by simp; omega) ?_
   refine nEq (x := ((i' + 1 : Nat) : Int)) (by rw [wrap64 (by omega) (by omega)]; omega) ?_
   refine nEq (x := ((j' - 1 : Nat) : Int)) (by rw [wrap64 (by omega) (by omega)]; omega) ?_
   refine lIn (fun p : Nat × Nat × Array Int => a < p.1 ∧ p.1 ≤ p.2.1 + 2 ∧ p.2.1 < b ∧ p.2.2.size = n ∧ partLoop ltInt a p.1 p.2.1 p.2.2 = R)
    (fun (i, j, d) => ⟨[(0, .val (.slice (some ⟨r, 0, none⟩) n cap)), (1, .val (.int .i64 a)), (10, .val (.int .i64 i)), (11, .val (.int .i64 j))], [], 0, μ, RowI h0 r ty rest d⟩) (fun p => p.2.1 + 1 - p.1)
    (i' + 1, j' - 1, swp d1 i' j') ⟨by dsimp only; omega, by dsimp only; omega, by dsimp only; omega, by dsimp only; rw [Go.Sort.swp_size]; exact hs, hR⟩ (fun (_, _, _) => ⟨rfl, rfl⟩) ⟨⟨rfl, rfl, rfl, rfl, trivial⟩, trivial, rfl, rfl⟩ ?_
   clear hR hgt hs hai hij0 hjb h1 h2 g1 g2
   rintro ⟨i, j, d1⟩ ⟨hai, hij0, hjb, hs, hR⟩
   dsimp only at hai hij0 hjb hs hR
   rw [partLoop_eq] at hR
   generalize hU : scanUp (fun x => ltInt x d1[a]!) d1 j i = U at *
   refine lIn (fun i' : Nat => i ≤ i' ∧ i' ≤ j + 2 ∧ scanUp (fun x => ltInt x d1[a]!) d1 j i' = U) (fun i' => ⟨[(0, .val (.slice (some ⟨r, 0, none⟩) n cap)), (1, .val (.int .i64 a)), (10, .val (.int .i64 i')), (11, .val (.int .i64 j))], [], 0, μ, RowI h0 r ty rest d1⟩) (fun i' => j + 1 - i')
    i ⟨by omega, by omega, hU⟩ (fun _ => ⟨rfl, rfl⟩) ⟨⟨rfl, rfl, rfl, rfl, trivial⟩, trivial, rfl, rfl⟩ ?_
   clear hU
   rintro i' ⟨h1, h2, hU⟩
   rw [scanUp] at hU
   refine ifd (fun hij => ?_) (fun hij => ?_)
   refine idxI (i') (by omega) (by omega) ?_
   refine rdI (by omega) ?_
   refine idxI (a) (by omega) (by omega) ?_
   refine rdI (by omega) ?_
   refine cGv (Less_spec _ _) ?_
   refine iIn (fun hl => ?_) (fun hl => ?_)
   ·rw [if_pos (by simp only [Bool.and_eq_true, decide_eq_true_eq]; exact ⟨by omega, hl⟩)] at hU
    refine nEq (x := ((i' + 1 : Nat) : Int)) (by rw [wrap64 (by omega) (by omega)]; omega) ?_
    exact ⟨i' + 1, ⟨by omega, by omega, hU⟩, by omega, ⟨⟨rfl, rfl, rfl, rfl, trivial⟩, trivial, rfl, rfl⟩⟩
   rw [if_neg (by simp only [Bool.and_eq_true, hl]; simp)] at hU
   rotate_left
   rw [if_neg (by simp; omega)] at hU
   obtain rfl := hU
   rotate_left
   obtain rfl := hU
   rotate_left
   all_goals
    generalize hV : scanDown (fun x => !ltInt x d1[a]!) d1 i' j = V at *
    refine lIn (fun j' : Nat => j' ≤ j ∧ 0 ≤ j' ∧ scanDown (fun x => !ltInt x d1[a]!) d1 i' j' = V) (fun j' => ⟨[(0, .val (.slice (some ⟨r, 0, none⟩) n cap)), (1, .val (.int .i64 a)), (10, .val (.int .i64 i')), (11, .val (.int .i64 j'))], [], 0, μ, RowI h0 r ty rest d1⟩) (fun j' => j')
     j ⟨by omega, by omega, hV⟩ (fun _ => ⟨rfl, rfl⟩) ⟨⟨rfl, rfl, rfl, rfl, trivial⟩, trivial, rfl, rfl⟩ ?_
    clear hV
    rintro j' ⟨g1, g2, hV⟩
    refine ifd (fun hij2 => ?_) (fun hij2 => ?_)
    obtain ⟨k, rfl⟩ : ∃ k, j' = k + 1 := ⟨j' - 1, by omega⟩
    rw [scanDown] at hV
    refine idxI (k + 1) (by omega) (by omega) ?_
    refine rdI (by omega) ?_
    refine idxI (a) (by omega) (by omega) ?_
    refine rdI (by omega) ?_
    refine cGv (Less_spec _ _) ?_
    refine iIn (fun hl => ?_) (fun hl => ?_)
    ·rw [if_pos (by simp only [Bool.and_eq_true, decide_eq_true_eq]; exact ⟨by omega, hl⟩)] at hV
     refine nEq (x := ((k : Nat) : Int)) (by rw [wrap64 (by omega) (by omega)]; omega) ?_
     exact ⟨k, ⟨by omega, by omega, hV⟩, by omega, ⟨⟨rfl, rfl, rfl, rfl, trivial⟩, trivial, rfl, rfl⟩⟩
    rw [if_neg (by simp only [Bool.and_eq_true, hl]; simp)] at hV
    obtain rfl := hV
    generalize k + 1 = j' at *
    rotate_left
    replace hV : j' = V := by
     cases j' with
     | zero => exact hV
     | succ k => rwa [scanDown, if_neg (by simp; omega)] at hV
    obtain rfl := hV
    rotate_left
   all_goals
    refine ifd (fun hgt => ?_) (fun hgt => ?_)
    ·rw [if_pos (by omega)] at hR
     subst hR
     refine idxI (a) (by omega) (by omega) ?_
     refine rdI (by omega) ?_
     refine idxI (j') (by omega) (by omega) ?_
     refine rdI (by omega) ?_
     refine idxI (j') (by omega) (by omega) ?_
     refine wrI (by omega) ?_
     refine idxI (a) (by omega) (by omega) ?_
     refine wrI (by simp; omega) ?_
     exact rPl ⟨⟨_, rfl⟩, rfl, rfl⟩
    ·rw [if_neg (by omega)] at hR
     refine idxI (j') (by omega) (by omega) ?_
     refine rdI (by omega) ?_
     refine idxI (i') (by omega) (by omega) ?_
     refine rdI (by omega) ?_
     refine idxI (i') (by omega) (by omega) ?_
     refine wrI (by omega) ?_
     refine idxI (j') (by omega) (by omega) ?_
     refine wrI (by simp; omega) ?_
     refine nEq (x := ((i' + 1 : Nat) : Int)) (by rw [wrap64 (by omega) (by omega)]; omega) ?_
     refine nEq (x := ((j' - 1 : Nat) : Int)) (by rw [wrap64 (by omega) (by omega)]; omega) ?_
     exact ⟨(i' + 1, j' - 1, swp d1 i' j'), ⟨by dsimp only; omega, by dsimp only; omega, by dsimp only; omega, by dsimp only; rw [Go.Sort.swp_size]; exact hs, hR⟩, by dsimp only; omega, ⟨⟨rfl, rfl, rfl, rfl, trivial⟩, trivial, rfl, rfl⟩⟩
end
end Go.Vx
