/- Texts of the proof, part 3: VxZ Vh Vi Vd Vk Vl Vm Vn Vo Vp Vr Vs Ve Vj Vt Vu Vv Vw Wa Wc Wd Wb We Wf. -/
import Derived.Test.YtjgohkogcdmbdaaM2
/- Sizes and widths of data; what is asked of the elements of slices. -/
namespace Go.Vx
mutual
/-- What a law's budget takes off for data: the bytes of strings, the elements of slices. -/
def D.sz : D → Nat
  | .i _ => 0
  | .b _ => 0
  | .s x => x.size
  | .st fs => D.szs fs
  | .sl _ xs => xs.length + D.szs xs
def D.szs : List D → Nat
  | [] => 0
  | d :: r => d.sz + D.szs r
end
mutual
/-- All strings are as short as the machine has them. -/
def D.wd : D → Prop
  | .i n => InR n
  | .b _ => True
  | .s x => x.size ≤ maxLen
  | .st fs => D.wds fs
  | .sl _ xs => D.wds xs
def D.wds : List D → Prop
  | [] => True
  | d :: r => d.wd ∧ D.wds r
end
theorem D.szs_append : ∀ (a c : List D), D.szs (a ++ c) = D.szs a + D.szs c
  | [], c => by simp [D.szs]
  | d :: r, c => by simp [D.szs, D.szs_append r c, Nat.add_assoc]
theorem D.szs_take {xs : List D} {j : Nat} {x : D} (h : xs[j]? = some x) : D.szs (xs.take (j + 1)) = D.szs (xs.take j) + x.sz := by
  rw [List.take_add_one, h, Option.toList_some, D.szs_append]; simp [D.szs]
theorem D.szs_le (xs : List D) (j : Nat) : D.szs (xs.take j) ≤ D.szs xs := by
  have := D.szs_append (xs.take j) (xs.drop j)
  rw [List.take_append_drop] at this; omega
theorem D.szs_one {xs : List D} {j : Nat} {x : D} (h : xs[j]? = some x) : D.szs (xs.take j) + x.sz ≤ D.szs xs := by
  rw [← D.szs_take h]; exact D.szs_le _ _
theorem D.szs_mem {xs : List D} {j : Nat} {x : D} (h : xs[j]? = some x) : x.sz ≤ D.szs xs := by
  have := D.szs_one h; omega
theorem D.wds_mem : ∀ {xs : List D}, D.wds xs → ∀ x ∈ xs, x.wd
  | [], _, x, h => by cases h
  | d :: r, k, x, h => by
    rcases List.mem_cons.1 h with rfl | h
    · exact k.1
    · exact D.wds_mem k.2 x h
theorem D.wds_of : ∀ {xs : List D}, (∀ x ∈ xs, x.wd) → D.wds xs
  | [], _ => trivial
  | d :: r, k => ⟨k d (by simp), D.wds_of fun x h => k x (by simp [h])⟩
theorem at_map {α : Type} {f : α → D} {l : List α} {j : Nat} {a : α} (h : l[j]? = some a) : (l.map f)[j]? = some (f a) := by simp [h]
theorem mem_at {α : Type} {l : List α} {j : Nat} {a : α} (h : l[j]? = some a) : a ∈ l := by
  obtain ⟨h1, h2⟩ := List.getElem?_eq_some_iff.1 h
  rw [← h2]; exact List.getElem_mem h1
theorem maxLen_le {n : Nat} (h : n ≤ maxLen) : (n : Int) ≤ 9223372036854775807 := by
  have := Nat.le_trans h (show maxLen ≤ 9223372036854775807 by decide); omega
/-- A row of data that is being filled: its first k elements are done. -/
structure Filled (es : Nat) (z : Value) (μ μ' : Mem) (ds : List D) (k : Nat) (ys : List Value) (g : Mem) : Prop where
  le : k ≤ ds.length
  len : ys.length = ds.length
  done : OwnRows es (ds.take k) (ys.take k) g
  rest : ∀ j, k ≤ j → j < ds.length → ys[j]? = some z
  sub : g.Le μ'
  new : ∀ x, g x ≠ none → μ x = none
  grow : μ.Le μ'
theorem Filled.start {es : Nat} {z : Value} {μ : Mem} {ds : List D} {n : Nat} (h : ds.length = n) : Filled es z μ μ ds 0 (List.replicate n z) Mem.nil :=
  ⟨by simp, by simp [h], by simpa using OwnRows.nil es, fun j _ hj => by rw [List.getElem?_replicate, if_pos (by omega)], (fun _ _ h => nomatch h), fun _ h => absurd rfl h, Mem.Le.refl μ⟩
theorem Filled.step {es : Nat} {z : Value} {μ μ' μ'' : Mem} {ds : List D} {k : Nat} {ys : List Value} {g : Mem} (f : Filled es z μ μ' ds k ys g) {d : D} {v : Value} (hd : ds[k]? = some d) (hn : d.n = es) (hv : Fresh μ' μ'' d v) (hl : μ'.Le μ'') :
    ∃ g', Filled es z μ μ'' ds (k + 1) (ys.set k v) g' := by
  obtain ⟨g', h1, h2, h3⟩ := hv
  have hk : k < ds.length := (List.getElem?_eq_some_iff.1 hd).1
  have hlen := f.len
  refine ⟨g.join g', ⟨hk, by simpa using f.len, ?_, fun j hj hj' => ?_, join_le (f.sub.trans hl) h2, fun x hx => ?_, f.grow.trans hl⟩⟩
  · rw [List.take_add_one, hd, Option.toList_some, List.take_add_one, List.getElem?_set_self (by omega), Option.toList_some, List.take_set_of_le (Nat.le_refl k)]
    exact f.done.snoc h1 hn (fresh_apart f.sub h3)
  · rw [List.getElem?_set_ne (by omega)]
    exact f.rest j (by omega) hj'
  · rcases join_ne hx with h | h
    · exact f.new x h
    · cases h0 : μ x with
      | none => rfl
      | some o => have := h3 x h; rw [f.grow x o h0] at this; cases this
theorem Filled.all {es : Nat} {z : Value} {μ μ' : Mem} {ds : List D} {k : Nat} {ys : List Value} {g : Mem} (f : Filled es z μ μ' ds k ys g) (hk : k = ds.length) : OwnRows es ds ys g := by
  subst hk
  have := f.done
  rwa [List.take_length, List.take_of_length_le (by rw [f.len]; exact Nat.le_refl _)] at this
theorem ElemAt.mono {μ μ' : Mem} (h : μ.Le μ') {base : Option Addr} {n es : Nat} {i : Int} {a : Addr} {cs : List Value} (k : ElemAt μ base n es i a cs) : ElemAt μ' base n es i a cs :=
  ⟨k.lo, k.hi, k.addr, k.len, fun j v hj => h.cell (k.cell j v hj)⟩
theorem Sl.mono {μ μ' : Mem} (h : μ.Le μ') {es n : Nat} {base : Option Addr} {xs : List D} (k : Sl μ es base n xs) : Sl μ' es base n xs :=
  ⟨k.len, k.max, fun i x hx => by
    obtain ⟨a, cs, h1, h2⟩ := k.get i x hx
    exact ⟨a, cs, h1.mono h, Rep.mono h x cs h2⟩⟩
end Go.Vx

/- Contracts: the laws' own functions on terms and bindings: sizes, copies, equality. -/
namespace Go.Vx
open Go.Proofs Classical
/-! ### Terms -/
inductive Tm where
  | mk (kind num : Int) (name : ByteArray) (args : List Tm)
theorem Tm.ind {p : Tm → Prop} (h : ∀ k n s l, (∀ t ∈ l, p t) → p (.mk k n s l)) : ∀ t, p t
  | .mk k n s l => h k n s l fun t _ => Tm.ind h t
mutual
def Tm.d : Tm → D
  | .mk k n s l => .st [.i k, .i n, .s s, .sl 4 (Tm.ds l)]
def Tm.ds : List Tm → List D
  | [] => []
  | t :: r => t.d :: Tm.ds r
end
theorem Tm.ds_map : ∀ l : List Tm, Tm.ds l = l.map Tm.d
  | [] => rfl
  | t :: r => by simp [Tm.ds, Tm.ds_map r]
theorem Tm.d_mk (k n : Int) (s : ByteArray) (l : List Tm) : (Tm.mk k n s l).d = .st [.i k, .i n, .s s, .sl 4 (l.map Tm.d)] := by rw [Tm.d, Tm.ds_map]
theorem Tm.d_n (t : Tm) : t.d.n = 4 := by cases t; rfl
def Tm.kind : Tm → Int | .mk k _ _ _ => k
def Tm.num : Tm → Int | .mk _ n _ _ => n
def Tm.name : Tm → ByteArray | .mk _ _ s _ => s
def Tm.args : Tm → List Tm | .mk _ _ _ l => l
/-- The cells of a term. -/
def Tm.cs (t : Tm) (p : Option Addr × Nat) : List Value := [.int .i64 t.kind, .int .i64 t.num, .string t.name, .slice p.1 t.args.length p.2]
section
variable {μ : Mem}
theorem Tm.invS {k n : Int} {s : ByteArray} {l : List Tm} {cs : List Value} (h : Rep μ (Tm.mk k n s l).d cs) : ∃ base cap, cs = [.int .i64 k, .int .i64 n, .string s, .slice base l.length cap] ∧ Sl μ 4 base l.length (l.map Tm.d) := by
  rw [Tm.d_mk] at h
  obtain ⟨c1, c2, rfl, rfl, c3, c4, rfl, rfl, c5, c6, rfl, rfl, c7, c8, rfl, h4, rfl⟩ := h
  have hl := Rep.len _ _ h4
  match c7, hl with
  | [v], _ =>
    obtain ⟨base, cap, rfl, hsl⟩ := h4.sl
    rw [List.length_map] at hsl
    exact ⟨base, cap, by simp, hsl⟩
theorem Tm.inv {k n : Int} {s : ByteArray} {l : List Tm} {v : Value} (h : RepV μ (Tm.mk k n s l).d v) : ∃ base cap, v = .agg #[.int .i64 k, .int .i64 n, .string s, .slice base l.length cap] ∧ Sl μ 4 base l.length (l.map Tm.d) := by
  have h' : ∃ cs, v = .agg (List.toArray cs) ∧ Rep μ (Tm.mk k n s l).d cs := by rw [Tm.d_mk] at h ⊢; exact h
  obtain ⟨cs, e, h2⟩ := h'
  obtain ⟨base, cap, e2, hsl⟩ := Tm.invS h2
  exact ⟨base, cap, by rw [e, e2], hsl⟩
theorem Tm.rep {t : Tm} {cs : List Value} (h : Rep μ t.d cs) : RepV μ t.d (.agg cs.toArray) := by
  cases t; rw [Tm.d_mk] at h ⊢; exact ⟨cs, rfl, h⟩
theorem Tm.invV {t : Tm} {v : Value} (h : RepV μ t.d v) : ∃ p : Option Addr × Nat, v = .agg #[.int .i64 t.kind, .int .i64 t.num, .string t.name, .slice p.1 t.args.length p.2] := by
  cases t; obtain ⟨b, c, h, _⟩ := Tm.inv h; exact ⟨(b, c), h⟩
/-- An element of a slice of terms. -/
theorem Tm.elem {l : List Tm} {base : Option Addr} {n : Nat} (h : Sl μ 4 base n (l.map Tm.d)) {i : Nat} {t : Tm} (ht : l[i]? = some t) : ∃ ad, ∃ p : Option Addr × Nat, ElemAt μ base n 4 i ad (t.cs p) ∧ RepV μ t.d (.agg (t.cs p).toArray) := by
  obtain ⟨ad, cs, h1, h2⟩ := h.get i t.d (by simp [ht])
  have h3 := Tm.rep h2
  cases t with
  | mk k n s l =>
    obtain ⟨b, c, rfl, hsl⟩ := Tm.invS h2
    exact ⟨ad, (b, c), h1, h3⟩
theorem szTermS_of {l : List Tm} (he : ∀ t ∈ l, ∀ {v : Value} {left : Int}, RepV μ t.d v → 0 ≤ left → left ≤ 1048576 → t.d.wd → Gives Try.prog 23 [v, .int .i64 left] μ (.int .i64 (szR left t.d.sz)))
    {base : Option Addr} {cap : Nat} {left : Int} (hsl : Sl μ 4 base l.length (l.map Tm.d)) (hl : 0 ≤ left) (hl2 : left ≤ 1048576) (hw : D.wds (l.map Tm.d)) :
    Gives Try.prog 18 [.slice base l.length cap, .int .i64 left] μ (.int .i64 (szR left (l.length + D.szs (l.map Tm.d)))) := by
  have hn := maxLen_le hsl.max
  refine Spec.mk Try.func18 (by kernel_rfl) ?_
  refine num64 (by omega) (by omega) (ifd (fun h => ret_gives ?_ rfl) (fun h => ?_))
  · rw [szR_neg (by omega)]
  refine loop_intro (fun i : Nat => i ≤ l.length ∧ (D.szs ((l.map Tm.d).take i) : Int) ≤ left - l.length) (fun i => ⟨[(0, .val (.slice base l.length cap)), (1, .val (.int .i64 (left - l.length - D.szs ((l.map Tm.d).take i)))), (5, .val (.int .i64 i))], [], 0, μ, Mem.nil⟩) (fun i => l.length - i)
    0 ⟨by omega, by simp [D.szs]; omega⟩ (fun i => ⟨rfl, rfl⟩) ⟨⟨rfl, by show some (SV.val (.int .i64 _)) = some (SV.val (.int .i64 _)); congr 3; simp [D.szs], rfl, trivial⟩, trivial, rfl, rfl⟩ ?_
  rintro i ⟨hi, hz⟩
  refine ifd (fun h => ?_) (fun h => ?_)
  · obtain ⟨t, ht⟩ := at_some (l := l) (i := i) (by omega)
    have hx := at_map (f := Tm.d) ht
    have hs := D.szs_take hx
    have hs' := D.szs_le (l.map Tm.d) (i + 1)
    obtain ⟨ad, p, hel, hr⟩ := Tm.elem hsl ht
    refine elem_intro hel (call_gives (he t (mem_at ht) hr (by omega) (by omega) (D.wds_mem hw _ (mem_at hx))) ?_)
    refine ifd (fun h => ret_gives ?_ rfl) (fun h => ?_)
    · have := szR_lt h
      rw [szR_neg (by omega)]
    · have := szR_ge h
      refine num64 (by omega) (by omega) ⟨i + 1, ⟨by omega, by omega⟩, by omega, ⟨⟨rfl, ?_, rfl, trivial⟩, trivial, rfl, rfl⟩⟩
      rw [szR_pos this, hs]
      show some (SV.val (.int .i64 _)) = some (SV.val (.int .i64 _))
      congr 3; omega
  · obtain rfl : i = l.length := by omega
    rw [List.take_of_length_le (by simp)] at hz ⊢
    refine ret_gives ?_ rfl
    rw [szR_pos (by omega)]; congr 1; omega
theorem szTerm_spec : ∀ (t : Tm) {v : Value} {left : Int}, RepV μ t.d v → 0 ≤ left → left ≤ 1048576 → t.d.wd → Gives Try.prog 23 [v, .int .i64 left] μ (.int .i64 (szR left t.d.sz)) :=
  Tm.ind fun k n s l ih v left hv hl hl2 hw => by
    obtain ⟨base, cap, rfl, hsl⟩ := Tm.inv hv
    have hd := Tm.d_mk k n s l
    have hsz : (Tm.mk k n s l).d.sz = s.size + (l.length + D.szs (l.map Tm.d)) := by rw [hd]; simp [D.sz, D.szs]
    rw [hd] at hw
    have h1 : s.size ≤ maxLen := hw.2.2.1
    have h1 := maxLen_le h1
    refine Spec.mk Try.func23 (by kernel_rfl) ?_
    intro r
    refine num64 (by omega) (by omega) (ifd (fun h => ret_gives ?_ rfl) (fun h => ?_))
    · rw [szR_neg (by omega)]
    refine call_gives (szTermS_of (l := l) (fun t ht _ _ => ih t ht) hsl (by omega) (by omega) hw.2.2.2.1) ?_
    refine ifd (fun h => ret_gives ?_ rfl) (fun h => ret_gives ?_ rfl)
    · have := szR_lt h
      rw [szR_neg (by omega)]
    · have := szR_ge h
      rw [szR_pos this, szR_pos (by omega)]
      congr 1; omega
theorem szTermS_spec {l : List Tm} {base : Option Addr} {cap : Nat} {left : Int} (hsl : Sl μ 4 base l.length (l.map Tm.d)) (hl : 0 ≤ left) (hl2 : left ≤ 1048576) (hw : D.wds (l.map Tm.d)) :
    Gives Try.prog 18 [.slice base l.length cap, .int .i64 left] μ (.int .i64 (szR left (l.length + D.szs (l.map Tm.d)))) := szTermS_of (fun t _ _ _ => szTerm_spec t) hsl hl hl2 hw
/-! ### Copies -/
theorem toTermS_of {l : List Tm} (he : ∀ t ∈ l, ∀ {μ : Mem} {v : Value}, RepV μ t.d v → t.d.sz ≤ 1048576 → Spec Try.prog 26 [v] μ fun v μ' => Fresh μ μ' t.d v)
    {base : Option Addr} {cap : Nat} (hsl : Sl μ 4 base l.length (l.map Tm.d)) (hb : l.length + D.szs (l.map Tm.d) ≤ 1048576) :
    Spec Try.prog 20 [.slice base l.length cap] μ fun v μ' => Fresh μ μ' (.sl 4 (l.map Tm.d)) v := by
  refine Spec.mk Try.func20 (by kernel_rfl) ?_
  refine make_intro l.length rfl rfl (by simp only; omega) (Nat.le_trans (m := 1048576) (by omega) (by decide)) ?_
  intro r
  refine loop_intro (fun p : Nat × List Value × Mem => μ.Le p.2.2 ∧ ∃ g, Filled 4 (.agg #[.int .i64 0, .int .i64 0, .string ⟨#[]⟩, .slice none 0 0]) μ p.2.2 (l.map Tm.d) p.1 p.2.1 g)
    (fun (i, xs, μ') => ⟨[(0, .val (.slice base l.length cap)), (3, .row 0 (some r) l.length l.length), (4, .val (.int .i64 i))], [(0, some (.row (some r) l.length 50 4 xs))], 1, μ', Mem.nil⟩) (fun p => l.length - p.1)
    (0, List.replicate l.length (.agg #[.int .i64 0, .int .i64 0, .string ⟨#[]⟩, .slice none 0 0]), μ) ⟨Mem.Le.refl μ, _, Filled.start (by simp)⟩ (fun (_, _, _) => ⟨rfl, rfl⟩) ⟨⟨rfl, rfl, rfl, trivial⟩, ⟨rfl, trivial⟩, rfl, rfl⟩ ?_
  rintro ⟨i, xs, μ'⟩ ⟨hle, g, hf⟩
  dsimp only at hle hf
  have hi := hf.le
  have hlen := hf.len
  rw [List.length_map] at hi hlen
  refine ifd (fun h => ?_) (fun h => ?_)
  · obtain ⟨t, ht⟩ := at_some (l := l) (i := i) (by omega)
    have hx := at_map (f := Tm.d) ht
    have hs := D.szs_mem hx
    obtain ⟨ad, p, hel, hr⟩ := Tm.elem (hsl.mono hle) ht
    refine elem_intro hel (call_plain (he t (mem_at ht) hr (by omega)) fun v μ'' hle2 hfr => ?_)
    obtain ⟨g', hf'⟩ := hf.step hx (Tm.d_n t) hfr hle2
    obtain ⟨p2, rfl⟩ := Tm.invV hfr.rep
    refine rel_intro i rfl (by omega) ?_
    refine get_intro _ (hf.rest i (by omega) (by simpa using h)) ?_
    refine num64 (by omega) (by omega) ⟨(i + 1, _, μ''), ⟨hle.trans hle2, g', hf'⟩, by dsimp only; omega, ⟨⟨rfl, rfl, rfl, trivial⟩, ⟨rfl, trivial⟩, rfl, rfl⟩⟩
  · obtain rfl : i = l.length := by omega
    refine ret_frz [0] fun μ2 hle2 hno hrow => .inl ?_
    have := Fresh.ofRow (hf.all (by simp)) hf.sub hf.new hle hle2 hno hrow (Nat.le_trans (m := 1048576) (by omega) (by decide))
    rw [hlen] at this
    exact this
theorem toTerm_spec : ∀ (t : Tm) {μ : Mem} {v : Value}, RepV μ t.d v → t.d.sz ≤ 1048576 → Spec Try.prog 26 [v] μ fun v μ' => Fresh μ μ' t.d v :=
  Tm.ind fun k n s l ih μ v hv hb => by
    obtain ⟨base, cap, rfl, hsl⟩ := Tm.inv hv
    have hd := Tm.d_mk k n s l
    have hsz : (Tm.mk k n s l).d.sz = s.size + (l.length + D.szs (l.map Tm.d)) := by rw [hd]; simp [D.sz, D.szs]
    refine Spec.mk Try.func26 (by kernel_rfl) ?_
    intro r1 r2 r3
    refine call_plain (toTermS_of (l := l) (fun t ht _ _ => ih t ht) hsl (by omega)) fun v μ' hle hf => ?_
    obtain ⟨h, h1, h2, h3⟩ := hf
    obtain ⟨base', cap', rfl⟩ := OwnV.slice h1
    rw [hd]
    exact ret_plain ⟨h, ⟨_, rfl, OwnS.int (OwnS.int (OwnS.str (OwnS.last h1)))⟩, h2, h3⟩
theorem toTermS_spec {l : List Tm} {base : Option Addr} {cap : Nat} (hsl : Sl μ 4 base l.length (l.map Tm.d)) (hb : l.length + D.szs (l.map Tm.d) ≤ 1048576) :
    Spec Try.prog 20 [.slice base l.length cap] μ fun v μ' => Fresh μ μ' (.sl 4 (l.map Tm.d)) v := toTermS_of (fun t _ _ _ => toTerm_spec t) hsl hb
/-! ### Equality -/
theorem eqTermS_of {l : List Tm} (he : ∀ t ∈ l, ∀ {v v' : Value}, RepV μ t.d v → RepV μ t.d v' → Gives Try.prog 29 [v, v'] μ (.bool true))
    {base base' : Option Addr} {cap cap' : Nat} (hl : Sl μ 4 base l.length (l.map Tm.d)) (hl' : Sl μ 4 base' l.length (l.map Tm.d)) :
    Gives Try.prog 22 [.slice base l.length cap, .slice base' l.length cap'] μ (.bool true) := by
  have hn := maxLen_le hl.max
  refine Spec.mk Try.func22 (by kernel_rfl) ?_
  refine ifnd (fun h => absurd rfl h) (fun _ => ?_)
  refine loop_intro (fun i : Nat => i ≤ l.length) (fun i => ⟨[(0, .val (.slice base l.length cap)), (1, .val (.slice base' l.length cap')), (5, .val (.int .i64 i))], [], 0, μ, Mem.nil⟩) (fun i => l.length - i)
    0 (by omega) (fun i => ⟨rfl, rfl⟩) ⟨⟨rfl, rfl, rfl, trivial⟩, trivial, rfl, rfl⟩ ?_
  intro i hi
  refine ifd (fun h => ?_) (fun h => ?_)
  · obtain ⟨t, ht⟩ := at_some (l := l) (i := i) (by omega)
    obtain ⟨ad, p, hel, hr⟩ := Tm.elem hl ht
    obtain ⟨ad', p', hel', hr'⟩ := Tm.elem hl' ht
    refine elem_intro hel (elem_intro hel' (call_gives (he t (mem_at ht) hr hr') ?_))
    refine if_intro (fun h => nomatch h) (fun _ => ?_)
    exact num64 (by omega) (by omega) ⟨i + 1, by omega, by omega, ⟨⟨rfl, rfl, rfl, trivial⟩, trivial, rfl, rfl⟩⟩
  · exact ret_gives rfl rfl
theorem eqTerm_spec : ∀ (t : Tm) {v v' : Value}, RepV μ t.d v → RepV μ t.d v' → Gives Try.prog 29 [v, v'] μ (.bool true) :=
  Tm.ind fun k n s l ih v v' hv hv' => by
    obtain ⟨base, cap, rfl, hsl⟩ := Tm.inv hv
    obtain ⟨base', cap', rfl, hsl'⟩ := Tm.inv hv'
    refine Spec.mk Try.func29 (by kernel_rfl) ?_
    intro r1 r2
    repeat' (first
      | refine ifnd (fun h => absurd rfl h) (fun _ => ?_)
      | refine call_gives (eqTermS_of (l := l) (fun t ht _ _ => ih t ht) hsl hsl') ?_
      | refine if_intro (fun h => nomatch h) (fun _ => ?_))
    exact ret_gives rfl rfl
theorem eqTermS_spec {l : List Tm} {base base' : Option Addr} {cap cap' : Nat} (hl : Sl μ 4 base l.length (l.map Tm.d)) (hl' : Sl μ 4 base' l.length (l.map Tm.d)) :
    Gives Try.prog 22 [.slice base l.length cap, .slice base' l.length cap'] μ (.bool true) := eqTermS_of (fun t _ _ _ => eqTerm_spec t) hl hl'
end
end Go.Vx

/- Contracts: the laws' own functions on bindings: sizes, copies, equality. -/
namespace Go.Vx
open Go.Proofs Classical
structure Bd where
  var : Int
  to : Tm
def Bd.d (b : Bd) : D := .st [.i b.var, b.to.d]
theorem Bd.d_n (b : Bd) : b.d.n = 5 := by
  have := Tm.d_n b.to
  simp only [Bd.d, D.n, D.ns, this]
def Bd.cs (b : Bd) (p : Option Addr × Nat) : List Value := [.int .i64 b.var, .int .i64 b.to.kind, .int .i64 b.to.num, .string b.to.name, .slice p.1 b.to.args.length p.2]
section
variable {μ : Mem}
theorem Tm.invC {t : Tm} {cs : List Value} (h : Rep μ t.d cs) : ∃ p : Option Addr × Nat, cs = t.cs p := by
  cases t
  obtain ⟨b, c, h, _⟩ := Tm.invS h
  exact ⟨(b, c), h⟩
theorem Bd.invS {b : Bd} {cs : List Value} (h : Rep μ b.d cs) : ∃ p : Option Addr × Nat, cs = b.cs p ∧ RepV μ b.to.d (.agg (b.to.cs p).toArray) := by
  obtain ⟨c1, c2, rfl, rfl, c3, c4, rfl, h3, rfl⟩ := h
  obtain ⟨p, rfl⟩ := Tm.invC h3
  exact ⟨p, by simp [Bd.cs, Tm.cs], Tm.rep h3⟩
theorem Bd.inv {b : Bd} {v : Value} (h : RepV μ b.d v) : ∃ p : Option Addr × Nat, v = .agg #[.int .i64 b.var, .int .i64 b.to.kind, .int .i64 b.to.num, .string b.to.name, .slice p.1 b.to.args.length p.2] ∧ RepV μ b.to.d (.agg (b.to.cs p).toArray) := by
  obtain ⟨cs, rfl, h⟩ := h
  obtain ⟨p, rfl, h2⟩ := Bd.invS (b := b) h
  exact ⟨p, rfl, h2⟩
theorem Bd.invV {b : Bd} {v : Value} (h : RepV μ b.d v) : ∃ p : Option Addr × Nat, v = .agg #[.int .i64 b.var, .int .i64 b.to.kind, .int .i64 b.to.num, .string b.to.name, .slice p.1 b.to.args.length p.2] := by
  obtain ⟨p, h, _⟩ := Bd.inv h
  exact ⟨p, h⟩
theorem Bd.elem {l : List Bd} {base : Option Addr} {n : Nat} (h : Sl μ 5 base n (l.map Bd.d)) {i : Nat} {b : Bd} (hb : l[i]? = some b) : ∃ ad, ∃ p : Option Addr × Nat, ElemAt μ base n 5 i ad (b.cs p) ∧ RepV μ b.d (.agg (b.cs p).toArray) := by
  obtain ⟨ad, cs, h1, h2⟩ := h.get i b.d (by simp [hb])
  obtain ⟨p, rfl, _⟩ := Bd.invS (b := b) h2
  exact ⟨ad, p, h1, _, rfl, h2⟩
theorem szBinding_spec (b : Bd) {v : Value} {left : Int} (hv : RepV μ b.d v) (hl : 0 ≤ left) (hl2 : left ≤ 1048576) (hw : b.d.wd) : Gives Try.prog 51 [v, .int .i64 left] μ (.int .i64 (szR left b.d.sz)) := by
  obtain ⟨p, rfl, ht⟩ := Bd.inv hv
  have hsz : b.d.sz = b.to.d.sz := by simp [Bd.d, D.sz, D.szs]
  refine Spec.mk Try.func51 (by kernel_rfl) ?_
  intro r
  refine call_gives (szTerm_spec b.to ht hl hl2 hw.2.1) ?_
  rw [hsz]
  refine ifd (fun h => ret_gives ?_ rfl) (fun h => ret_gives rfl rfl)
  rw [szR_neg (szR_lt h)]
theorem szBindingS_of {l : List Bd} (he : ∀ t ∈ l, ∀ {v : Value} {left : Int}, RepV μ t.d v → 0 ≤ left → left ≤ 1048576 → t.d.wd → Gives Try.prog 51 [v, .int .i64 left] μ (.int .i64 (szR left t.d.sz)))
    {base : Option Addr} {cap : Nat} {left : Int} (hsl : Sl μ 5 base l.length (l.map Bd.d)) (hl : 0 ≤ left) (hl2 : left ≤ 1048576) (hw : D.wds (l.map Bd.d)) :
    Gives Try.prog 24 [.slice base l.length cap, .int .i64 left] μ (.int .i64 (szR left (l.length + D.szs (l.map Bd.d)))) := by
  have hn := maxLen_le hsl.max
  refine Spec.mk Try.func24 (by kernel_rfl) ?_
  refine num64 (by omega) (by omega) (ifd (fun h => ret_gives ?_ rfl) (fun h => ?_))
  · rw [szR_neg (by omega)]
  refine loop_intro (fun i : Nat => i ≤ l.length ∧ (D.szs ((l.map Bd.d).take i) : Int) ≤ left - l.length) (fun i => ⟨[(0, .val (.slice base l.length cap)), (1, .val (.int .i64 (left - l.length - D.szs ((l.map Bd.d).take i)))), (5, .val (.int .i64 i))], [], 0, μ, Mem.nil⟩) (fun i => l.length - i)
    0 ⟨by omega, by simp [D.szs]; omega⟩ (fun i => ⟨rfl, rfl⟩) ⟨⟨rfl, by show some (SV.val (.int .i64 _)) = some (SV.val (.int .i64 _)); congr 3; simp [D.szs], rfl, trivial⟩, trivial, rfl, rfl⟩ ?_
  rintro i ⟨hi, hz⟩
  refine ifd (fun h => ?_) (fun h => ?_)
  · obtain ⟨t, ht⟩ := at_some (l := l) (i := i) (by omega)
    have hx := at_map (f := Bd.d) ht
    have hs := D.szs_take hx
    have hs' := D.szs_le (l.map Bd.d) (i + 1)
    obtain ⟨ad, p, hel, hr⟩ := Bd.elem hsl ht
    refine elem_intro hel (call_gives (he t (mem_at ht) hr (by omega) (by omega) (D.wds_mem hw _ (mem_at hx))) ?_)
    refine ifd (fun h => ret_gives ?_ rfl) (fun h => ?_)
    · have := szR_lt h
      rw [szR_neg (by omega)]
    · have := szR_ge h
      refine num64 (by omega) (by omega) ⟨i + 1, ⟨by omega, by omega⟩, by omega, ⟨⟨rfl, ?_, rfl, trivial⟩, trivial, rfl, rfl⟩⟩
      rw [szR_pos this, hs]
      show some (SV.val (.int .i64 _)) = some (SV.val (.int .i64 _))
      congr 3; omega
  · obtain rfl : i = l.length := by omega
    rw [List.take_of_length_le (by simp)] at hz ⊢
    refine ret_gives ?_ rfl
    rw [szR_pos (by omega)]; congr 1; omega
theorem szBindingS_spec {l : List Bd} {base : Option Addr} {cap : Nat} {left : Int} (hsl : Sl μ 5 base l.length (l.map Bd.d)) (hl : 0 ≤ left) (hl2 : left ≤ 1048576) (hw : D.wds (l.map Bd.d)) :
    Gives Try.prog 24 [.slice base l.length cap, .int .i64 left] μ (.int .i64 (szR left (l.length + D.szs (l.map Bd.d)))) := szBindingS_of (fun t _ _ _ => szBinding_spec t) hsl hl hl2 hw
theorem toBinding_spec (b : Bd) {μ : Mem} {v : Value} (hv : RepV μ b.d v) (hb : b.d.sz ≤ 1048576) : Spec Try.prog 56 [v] μ fun v μ' => Fresh μ μ' b.d v := by
  obtain ⟨p, rfl, ht⟩ := Bd.inv hv
  have hsz : b.d.sz = b.to.d.sz := by simp [Bd.d, D.sz, D.szs]
  refine Spec.mk Try.func56 (by kernel_rfl) ?_
  intro r1 r2 r3
  refine call_plain (toTerm_spec b.to ht (by omega)) fun v μ' hle hf => ?_
  obtain ⟨p', rfl⟩ := Tm.invV hf.rep
  obtain ⟨h, h1, h2, h3⟩ := hf
  exact ret_plain ⟨h, ⟨_, rfl, OwnS.int (OwnS.last h1.cells)⟩, h2, h3⟩
theorem toBindingS_of {l : List Bd} (he : ∀ t ∈ l, ∀ {μ : Mem} {v : Value}, RepV μ t.d v → t.d.sz ≤ 1048576 → Spec Try.prog 56 [v] μ fun v μ' => Fresh μ μ' t.d v)
    {base : Option Addr} {cap : Nat} (hsl : Sl μ 5 base l.length (l.map Bd.d)) (hb : l.length + D.szs (l.map Bd.d) ≤ 1048576) :
    Spec Try.prog 27 [.slice base l.length cap] μ fun v μ' => Fresh μ μ' (.sl 5 (l.map Bd.d)) v := by
  refine Spec.mk Try.func27 (by kernel_rfl) ?_
  refine make_intro l.length rfl rfl (by simp only; omega) (Nat.le_trans (m := 1048576) (by omega) (by decide)) ?_
  intro r
  refine loop_intro (fun p : Nat × List Value × Mem => μ.Le p.2.2 ∧ ∃ g, Filled 5 (.agg #[.int .i64 0, .int .i64 0, .int .i64 0, .string ⟨#[]⟩, .slice none 0 0]) μ p.2.2 (l.map Bd.d) p.1 p.2.1 g)
    (fun (i, xs, μ') => ⟨[(0, .val (.slice base l.length cap)), (3, .row 0 (some r) l.length l.length), (4, .val (.int .i64 i))], [(0, some (.row (some r) l.length 82 5 xs))], 1, μ', Mem.nil⟩) (fun p => l.length - p.1)
    (0, List.replicate l.length (.agg #[.int .i64 0, .int .i64 0, .int .i64 0, .string ⟨#[]⟩, .slice none 0 0]), μ) ⟨Mem.Le.refl μ, _, Filled.start (by simp)⟩ (fun (_, _, _) => ⟨rfl, rfl⟩) ⟨⟨rfl, rfl, rfl, trivial⟩, ⟨rfl, trivial⟩, rfl, rfl⟩ ?_
  rintro ⟨i, xs, μ'⟩ ⟨hle, g, hf⟩
  dsimp only at hle hf
  have hi := hf.le
  have hlen := hf.len
  rw [List.length_map] at hi hlen
  refine ifd (fun h => ?_) (fun h => ?_)
  · obtain ⟨t, ht⟩ := at_some (l := l) (i := i) (by omega)
    have hx := at_map (f := Bd.d) ht
    have hs := D.szs_mem hx
    obtain ⟨ad, p, hel, hr⟩ := Bd.elem (hsl.mono hle) ht
    refine elem_intro hel (call_plain (he t (mem_at ht) hr (by omega)) fun v μ'' hle2 hfr => ?_)
    obtain ⟨g', hf'⟩ := hf.step hx (Bd.d_n t) hfr hle2
    obtain ⟨p2, rfl⟩ := Bd.invV hfr.rep
    refine rel_intro i rfl (by omega) ?_
    refine get_intro _ (hf.rest i (by omega) (by simpa using h)) ?_
    refine num64 (by omega) (by omega) ⟨(i + 1, _, μ''), ⟨hle.trans hle2, g', hf'⟩, by dsimp only; omega, ⟨⟨rfl, rfl, rfl, trivial⟩, ⟨rfl, trivial⟩, rfl, rfl⟩⟩
  · obtain rfl : i = l.length := by omega
    refine ret_frz [0] fun μ2 hle2 hno hrow => .inl ?_
    have := Fresh.ofRow (hf.all (by simp)) hf.sub hf.new hle hle2 hno hrow (Nat.le_trans (m := 1048576) (by omega) (by decide))
    rw [hlen] at this
    exact this
theorem toBindingS_spec {l : List Bd} {base : Option Addr} {cap : Nat} (hsl : Sl μ 5 base l.length (l.map Bd.d)) (hb : l.length + D.szs (l.map Bd.d) ≤ 1048576) :
    Spec Try.prog 27 [.slice base l.length cap] μ fun v μ' => Fresh μ μ' (.sl 5 (l.map Bd.d)) v := toBindingS_of (fun t _ _ _ => toBinding_spec t) hsl hb
theorem eqBinding_spec (b : Bd) {v v' : Value} (hv : RepV μ b.d v) (hv' : RepV μ b.d v') : Gives Try.prog 60 [v, v'] μ (.bool true) := by
  obtain ⟨p, rfl, ht⟩ := Bd.inv hv
  obtain ⟨p', rfl, ht'⟩ := Bd.inv hv'
  refine Spec.mk Try.func60 (by kernel_rfl) ?_
  intro r1 r2
  repeat' (first
    | refine ifnd (fun h => absurd rfl h) (fun _ => ?_)
    | refine call_gives (eqTerm_spec b.to ht ht') ?_
    | refine if_intro (fun h => nomatch h) (fun _ => ?_))
  exact ret_gives rfl rfl
theorem eqBindingS_of {l : List Bd} (he : ∀ t ∈ l, ∀ {v v' : Value}, RepV μ t.d v → RepV μ t.d v' → Gives Try.prog 60 [v, v'] μ (.bool true))
    {base base' : Option Addr} {cap cap' : Nat} (hl : Sl μ 5 base l.length (l.map Bd.d)) (hl' : Sl μ 5 base' l.length (l.map Bd.d)) :
    Gives Try.prog 30 [.slice base l.length cap, .slice base' l.length cap'] μ (.bool true) := by
  have hn := maxLen_le hl.max
  refine Spec.mk Try.func30 (by kernel_rfl) ?_
  refine ifnd (fun h => absurd rfl h) (fun _ => ?_)
  refine loop_intro (fun i : Nat => i ≤ l.length) (fun i => ⟨[(0, .val (.slice base l.length cap)), (1, .val (.slice base' l.length cap')), (5, .val (.int .i64 i))], [], 0, μ, Mem.nil⟩) (fun i => l.length - i)
    0 (by omega) (fun i => ⟨rfl, rfl⟩) ⟨⟨rfl, rfl, rfl, trivial⟩, trivial, rfl, rfl⟩ ?_
  intro i hi
  refine ifd (fun h => ?_) (fun h => ?_)
  · obtain ⟨t, ht⟩ := at_some (l := l) (i := i) (by omega)
    obtain ⟨ad, p, hel, hr⟩ := Bd.elem hl ht
    obtain ⟨ad', p', hel', hr'⟩ := Bd.elem hl' ht
    refine elem_intro hel (elem_intro hel' (call_gives (he t (mem_at ht) hr hr') ?_))
    refine if_intro (fun h => nomatch h) (fun _ => ?_)
    exact num64 (by omega) (by omega) ⟨i + 1, by omega, by omega, ⟨⟨rfl, rfl, rfl, trivial⟩, trivial, rfl, rfl⟩⟩
  · exact ret_gives rfl rfl
theorem eqBindingS_spec {l : List Bd} {base base' : Option Addr} {cap cap' : Nat} (hl : Sl μ 5 base l.length (l.map Bd.d)) (hl' : Sl μ 5 base' l.length (l.map Bd.d)) :
    Gives Try.prog 30 [.slice base l.length cap, .slice base' l.length cap'] μ (.bool true) := eqBindingS_of (fun t _ _ _ => eqBinding_spec t) hl hl'
end
end Go.Vx

/- What the law calls of arcs and graphs read. -/
namespace Go.Vx
open Go.Proofs
theorem und_int : Try.prog.underlying 3 = some (.int .i64) := ti3.kind
theorem und_bool : Try.prog.underlying 4 = some .bool := ti4.kind
theorem und_string : Try.prog.underlying 9 = some .string := ti9.kind
theorem lift_list {α : Type} {f : α → D} : ∀ {xs : List D}, (∀ x ∈ xs, ∃ a, x = f a) → ∃ l : List α, xs = l.map f
  | [], _ => ⟨[], rfl⟩
  | x :: xs, h => by
    obtain ⟨a, rfl⟩ := h x (by simp)
    obtain ⟨l, rfl⟩ := lift_list (xs := xs) fun y hy => h y (by simp [hy])
    exact ⟨a :: l, rfl⟩
theorem cellsOf_tt {P : Program} {t : TypeId} {i : TI} (h : TIok P t i) : P.cellsOf t = i.size := by
  obtain ⟨inf, hin, hs, _⟩ := h.info'
  simp [Program.cellsOf, hin, hs]
theorem read_Arc : Reads Try.prog 90 fun d => ∃ a : Arc, d = a.d
  | 0 => ReadsTo.zero _
  | n + 1 => (reads_struct ti90 rfl (FieldsTo.cons ti3 (reads_int und_int n) (FieldsTo.cons ti3 (reads_int und_int n) (FieldsTo.cons ti4 (reads_bool und_bool n) FieldsTo.nil)))).weaken fun d h => by
    obtain ⟨ds, rfl, h⟩ := h
    obtain ⟨_, _, rfl, ⟨n1, rfl, _⟩, q1⟩ := h.cons
    obtain ⟨_, _, rfl, ⟨n2, rfl, _⟩, q2⟩ := q1.cons
    obtain ⟨_, _, rfl, ⟨b, rfl⟩, q3⟩ := q2.cons
    obtain rfl := q3.nil
    exact ⟨⟨n1, n2, b⟩, rfl⟩
theorem read_ArcS : Reads Try.prog 22 fun d => ∃ l : List Arc, d = .sl 3 (l.map Arc.d) := fun n =>
  (reads_sl ti22.kind (cellsOf_tt ti90) (fun d h => by obtain ⟨a, rfl⟩ := h; rfl) read_Arc n).weaken fun d h => by
    obtain ⟨xs, rfl, h⟩ := h
    obtain ⟨l, rfl⟩ := lift_list h
    exact ⟨l, rfl⟩
theorem read_Graph : Reads Try.prog 24 fun d => ∃ g : Graph, d = g.d ∧ g.caller.size ≤ maxLen ∧ g.callee.size ≤ maxLen
  | 0 => ReadsTo.zero _
  | n + 1 => (reads_struct ti24 rfl (FieldsTo.cons ti9 (reads_str und_string n) (FieldsTo.cons ti9 (reads_str und_string n) (FieldsTo.cons ti22 (read_ArcS n) FieldsTo.nil)))).weaken fun d h => by
    obtain ⟨ds, rfl, h⟩ := h
    obtain ⟨_, _, rfl, ⟨n1, rfl, h1⟩, q1⟩ := h.cons
    obtain ⟨_, _, rfl, ⟨n2, rfl, h2⟩, q2⟩ := q1.cons
    obtain ⟨_, _, rfl, ⟨l, rfl⟩, q3⟩ := q2.cons
    obtain rfl := q3.nil
    exact ⟨⟨n1, n2, l⟩, rfl, h1, h2⟩
end Go.Vx

/- What the law calls of terms and bindings read. -/
namespace Go.Vx
open Go.Proofs
theorem read_Term : Reads Try.prog 45 fun d => ∃ t : Tm, d = t.d ∧ t.d.wd := fun n => by
  induction n using Nat.strongRecOn with
  | ind n ih =>
    match n, ih with
    | 0, _ => exact ReadsTo.zero _
    | n + 1, ih =>
      have hs : ReadsTo Try.prog n 37 fun d => ∃ xs, d = .sl 4 xs ∧ ∀ x ∈ xs, ∃ t : Tm, x = t.d ∧ t.d.wd := by
        match n, ih with
        | 0, _ => exact ReadsTo.zero _
        | n + 1, ih => exact reads_slice ti37.kind (cellsOf_tt ti45) (ih n (by omega)) (fun d h => by obtain ⟨t, rfl, _⟩ := h; exact Tm.d_n t)
      exact (reads_struct ti45 rfl (FieldsTo.cons ti3 (reads_int und_int n) (FieldsTo.cons ti3 (reads_int und_int n) (FieldsTo.cons ti9 (reads_str und_string n) (FieldsTo.cons ti37 hs FieldsTo.nil))))).weaken fun d h => by
        obtain ⟨ds, rfl, h⟩ := h
        obtain ⟨_, _, rfl, ⟨k, rfl, hk⟩, q1⟩ := h.cons
        obtain ⟨_, _, rfl, ⟨n, rfl, hn⟩, q2⟩ := q1.cons
        obtain ⟨_, _, rfl, ⟨s, rfl, hs⟩, q3⟩ := q2.cons
        obtain ⟨_, _, rfl, ⟨xs, rfl, hx⟩, q4⟩ := q3.cons
        obtain rfl := q4.nil
        obtain ⟨l, rfl⟩ := lift_list (f := Tm.d) fun x h => by obtain ⟨t, h, _⟩ := hx x h; exact ⟨t, h⟩
        refine ⟨.mk k n s l, (Tm.d_mk _ _ _ _).symm, ?_⟩
        rw [Tm.d_mk]
        exact ⟨hk, hn, hs, D.wds_of fun x hm => by obtain ⟨t, rfl, h⟩ := hx x hm; exact h, trivial⟩
theorem read_TermS : Reads Try.prog 37 fun d => ∃ l : List Tm, d = .sl 4 (l.map Tm.d) ∧ D.wds (l.map Tm.d) := fun n =>
  (reads_sl ti37.kind (cellsOf_tt ti45) (fun d h => by obtain ⟨a, rfl, _⟩ := h; exact Tm.d_n a) read_Term n).weaken fun d h => by
    obtain ⟨xs, rfl, hx⟩ := h
    obtain ⟨l, rfl⟩ := lift_list (f := Tm.d) fun x h => by obtain ⟨t, h, _⟩ := hx x h; exact ⟨t, h⟩
    exact ⟨l, rfl, D.wds_of fun x hm => by obtain ⟨t, rfl, h⟩ := hx x hm; exact h⟩
theorem read_Binding : Reads Try.prog 77 fun d => ∃ b : Bd, d = b.d ∧ b.d.wd
  | 0 => ReadsTo.zero _
  | n + 1 => (reads_struct ti77 rfl (FieldsTo.cons ti3 (reads_int und_int n) (FieldsTo.cons ti45 (read_Term n) FieldsTo.nil))).weaken fun d h => by
    obtain ⟨ds, rfl, h⟩ := h
    obtain ⟨_, _, rfl, ⟨v, rfl, hv⟩, q1⟩ := h.cons
    obtain ⟨_, _, rfl, ⟨t, rfl, ht⟩, q2⟩ := q1.cons
    obtain rfl := q2.nil
    exact ⟨⟨v, t⟩, rfl, hv, ht, trivial⟩
theorem read_BindingS : Reads Try.prog 46 fun d => ∃ l : List Bd, d = .sl 5 (l.map Bd.d) ∧ D.wds (l.map Bd.d) := fun n =>
  (reads_sl ti46.kind (cellsOf_tt ti77) (fun d h => by obtain ⟨a, rfl, _⟩ := h; exact Bd.d_n a) read_Binding n).weaken fun d h => by
    obtain ⟨xs, rfl, hx⟩ := h
    obtain ⟨l, rfl⟩ := lift_list (f := Bd.d) fun x h => by obtain ⟨t, h, _⟩ := hx x h; exact ⟨t, h⟩
    exact ⟨l, rfl, D.wds_of fun x hm => by obtain ⟨t, rfl, h⟩ := hx x hm; exact h⟩
end Go.Vx

/- Terms, plain: shapes, sizes, variables. -/
namespace Go.Vx
open Go.Proofs Classical
def Str.nil : ByteArray := ⟨#[]⟩
/-- Terms that are well-formed. -/
inductive T where
  | nil
  | var (n : Int)
  | sym (s : ByteArray)
  | num (n : Int)
  | pair (a b : T)
def T.tm : T → Tm
  | .nil => .mk 0 0 ⟨#[]⟩ []
  | .var n => .mk 1 n ⟨#[]⟩ []
  | .sym s => .mk 2 0 s []
  | .num n => .mk 3 n ⟨#[]⟩ []
  | .pair a b => .mk 4 0 ⟨#[]⟩ [a.tm, b.tm]
def T.good : T → Prop
  | .nil => True
  | .var n => 0 ≤ n ∧ n ≤ 100000
  | .sym s => IsNm s
  | .num n => -1000000000 ≤ n ∧ n ≤ 1000000000
  | .pair a b => a.good ∧ b.good
def T.size : T → Nat
  | .pair a b => 1 + a.size + b.size
  | .nil => 1
  | .var _ => 1
  | .sym _ => 1
  | .num _ => 1
def T.vars : T → List Int
  | .var n => [n]
  | .pair a b => a.vars ++ b.vars
  | .nil => []
  | .sym _ => []
  | .num _ => []
def T.ok (x : T) : Prop := x.good ∧ x.size ≤ 5000
mutual
def Tm.cnt : Tm → Nat
  | .mk _ _ _ l => 1 + Tm.cnts l
def Tm.cnts : List Tm → Nat
  | [] => 0
  | t :: r => t.cnt + Tm.cnts r
end
def Tm.Sh (t : Tm) : Prop := ∃ x : T, x.good ∧ x.tm = t
def Tm.Ok (t : Tm) : Prop := t.Sh ∧ t.cnt ≤ 5000
theorem T.cnt_tm : ∀ x : T, x.tm.cnt = x.size
  | .nil => rfl
  | .var _ => rfl
  | .sym _ => rfl
  | .num _ => rfl
  | .pair a b => by simp [T.tm, Tm.cnt, Tm.cnts, T.size, T.cnt_tm a, T.cnt_tm b]; omega
theorem T.size_pos : ∀ x : T, 1 ≤ x.size
  | .nil => by simp [T.size]
  | .var _ => by simp [T.size]
  | .sym _ => by simp [T.size]
  | .num _ => by simp [T.size]
  | .pair a b => by simp [T.size]; omega
theorem Tm.cnt_pos (t : Tm) : 1 ≤ t.cnt := by cases t; simp [Tm.cnt]
theorem Tm.Ok.lift {t : Tm} (h : t.Ok) : ∃ x : T, x.ok ∧ t = x.tm := by
  obtain ⟨⟨x, h1, rfl⟩, h2⟩ := h
  rw [T.cnt_tm] at h2
  exact ⟨x, ⟨h1, h2⟩, rfl⟩
theorem T.ok.tm {x : T} (h : x.ok) : x.tm.Ok := ⟨⟨x, h.1, rfl⟩, by rw [T.cnt_tm]; exact h.2⟩
/-- What makes a shape well-formed. -/
theorem Tm.Sh_iff (k n : Int) (s : ByteArray) (l : List Tm) : (Tm.mk k n s l).Sh ↔
    (k = 0 ∧ n = 0 ∧ s = ⟨#[]⟩ ∧ l = []) ∨ (k = 1 ∧ 0 ≤ n ∧ n ≤ 100000 ∧ s = ⟨#[]⟩ ∧ l = []) ∨ (k = 2 ∧ n = 0 ∧ IsNm s ∧ l = []) ∨ (k = 3 ∧ -1000000000 ≤ n ∧ n ≤ 1000000000 ∧ s = ⟨#[]⟩ ∧ l = []) ∨
    (k = 4 ∧ n = 0 ∧ s = ⟨#[]⟩ ∧ ∃ a b, l = [a, b] ∧ a.Sh ∧ b.Sh) := by
  constructor
  · rintro ⟨x, hx, e⟩
    cases x <;> simp only [T.tm, Tm.mk.injEq] at e <;> obtain ⟨rfl, rfl, rfl, rfl⟩ := e <;> simp only [T.good] at hx
    · simp
    · right; left; simp [hx]
    · right; right; left; simp [hx]
    · right; right; right; left; simp [hx]
    · right; right; right; right
      exact ⟨rfl, rfl, rfl, _, _, rfl, ⟨_, hx.1, rfl⟩, ⟨_, hx.2, rfl⟩⟩
  · rintro (⟨rfl, rfl, rfl, rfl⟩ | ⟨rfl, h1, h2, rfl, rfl⟩ | ⟨rfl, rfl, h1, rfl⟩ | ⟨rfl, h1, h2, rfl, rfl⟩ | ⟨rfl, rfl, rfl, a, b, rfl, ⟨x, h1, rfl⟩, ⟨y, h2, rfl⟩⟩)
    · exact ⟨.nil, trivial, rfl⟩
    · exact ⟨.var n, ⟨h1, h2⟩, rfl⟩
    · exact ⟨.sym s, h1, rfl⟩
    · exact ⟨.num n, ⟨h1, h2⟩, rfl⟩
    · exact ⟨.pair x y, ⟨h1, h2⟩, rfl⟩
theorem Tm.Sh_iff' (k n : Int) (s : ByteArray) (l : List Tm) : (Tm.mk k n s l).Sh ↔
    (k = 0 ∧ n = 0 ∧ s = ⟨#[]⟩ ∧ l.length = 0) ∨ (k = 1 ∧ 0 ≤ n ∧ n ≤ 100000 ∧ s = ⟨#[]⟩ ∧ l.length = 0) ∨ (k = 2 ∧ n = 0 ∧ IsNm s ∧ l.length = 0) ∨ (k = 3 ∧ -1000000000 ≤ n ∧ n ≤ 1000000000 ∧ s = ⟨#[]⟩ ∧ l.length = 0) ∨
    (k = 4 ∧ n = 0 ∧ s = ⟨#[]⟩ ∧ l.length = 2 ∧ ∃ a b, l = [a, b] ∧ a.Sh ∧ b.Sh) := by
  have h0 : l.length = 0 ↔ l = [] := List.length_eq_zero_iff
  have h2 : (l.length = 2 ∧ ∃ a b, l = [a, b] ∧ a.Sh ∧ b.Sh) ↔ ∃ a b, l = [a, b] ∧ a.Sh ∧ b.Sh := ⟨fun h => h.2, fun h => ⟨by obtain ⟨a, b, rfl, _⟩ := h; rfl, h⟩⟩
  rw [Tm.Sh_iff, h0, h2]
/-- A shape is ill-formed, a test says. -/
theorem isF {p : Prop} {_ : Decidable p} (h : ¬ p) : Value.bool false = .bool (decide p) := by rw [decide_eq_false h]
theorem isT {p : Prop} {_ : Decidable p} (h : p) : Value.bool true = .bool (decide p) := by rw [decide_eq_true h]
theorem isI {p q : Prop} {_ : Decidable p} {_ : Decidable q} (h : p ↔ q) : Value.bool (decide p) = .bool (decide q) := by simp only [h]
theorem two_of {α : Type} : ∀ {l : List α}, ((l.length : Nat) : Int) = 2 → ∃ a b, l = [a, b]
  | [a, b], _ => ⟨a, b, rfl⟩
  | [], h => by simp at h
  | [_], h => by simp at h
  | _ :: _ :: _ :: _, h => by simp at h; omega
theorem T.tm_inj : ∀ {x y : T}, x.tm = y.tm → x = y
  | .nil, y, h => by cases y <;> simp_all [T.tm]
  | .var n, y, h => by cases y <;> simp_all [T.tm]
  | .sym s, y, h => by cases y <;> simp_all [T.tm]
  | .num n, y, h => by cases y <;> simp_all [T.tm]
  | .pair a b, y, h => by
    cases y <;> simp [T.tm] at h
    rw [T.tm_inj h.1, T.tm_inj h.2]
theorem lift_ok : ∀ {l : List Tm}, (∀ t ∈ l, t.Ok) → ∃ xs : List T, l = xs.map T.tm ∧ ∀ x ∈ xs, x.ok
  | [], _ => ⟨[], rfl, by simp⟩
  | t :: l, h => by
    obtain ⟨x, h1, rfl⟩ := (h t (by simp)).lift
    obtain ⟨xs, rfl, h2⟩ := lift_ok (l := l) fun t ht => h t (by simp [ht])
    exact ⟨x :: xs, rfl, by simp; exact ⟨h1, h2⟩⟩
end Go.Vx

/- Contracts: which terms are well-formed. -/
namespace Go.Vx
open Go.Proofs Classical
section
variable {μ : Mem}
theorem Tm.cnts_append : ∀ (a c : List Tm), Tm.cnts (a ++ c) = Tm.cnts a + Tm.cnts c
  | [], c => by simp [Tm.cnts]
  | d :: r, c => by simp [Tm.cnts, Tm.cnts_append r c, Nat.add_assoc]
theorem Tm.cnts_take {xs : List Tm} {j : Nat} {x : Tm} (h : xs[j]? = some x) : Tm.cnts (xs.take (j + 1)) = Tm.cnts (xs.take j) + x.cnt := by
  rw [List.take_add_one, h, Option.toList_some, Tm.cnts_append]; simp [Tm.cnts]
theorem Tm.cnts_le (xs : List Tm) (j : Nat) : Tm.cnts (xs.take j) ≤ Tm.cnts xs := by
  have := Tm.cnts_append (xs.take j) (xs.drop j)
  rw [List.take_append_drop] at this; omega
/-- 'l02Count': the nodes, or just above the bound. -/
def upTo (n most : Int) : Int := min n (max most 0 + 1)
theorem l02Count_spec : ∀ (t : Tm) {v : Value} {most : Int}, RepV μ t.d v → -1000000000000 ≤ most → most ≤ 1000000000000 → Gives Try.prog 79 [v, .int .i64 most] μ (.int .i64 (upTo t.cnt most)) :=
  Tm.ind fun k n s l ih v most hv h1 h2 => by
    obtain ⟨base, cap, rfl, hsl⟩ := Tm.inv hv
    have hn := maxLen_le hsl.max
    refine Spec.mk Try.func79 (by kernel_rfl) ?_
    intro r
    refine loop_intro (fun i : Nat => i ≤ l.length) (fun i => ⟨[(1, .val (.int .i64 most)), (5, .val (.int .i64 (upTo (1 + Tm.cnts (l.take i) : Nat) most))), (9, .val (.slice base l.length cap)), (10, .val (.int .i64 l.length)), (11, .val (.int .i64 i))], [], 1, μ, Mem.nil⟩) (fun i => l.length - i)
      0 (by omega) (fun i => ⟨rfl, rfl⟩) ⟨⟨rfl, by show some (SV.val (.int .i64 _)) = some (SV.val (.int .i64 _)); congr 3; simp [Tm.cnts, upTo]; omega, rfl, rfl, rfl, trivial⟩, trivial, rfl, rfl⟩ ?_
    intro i hi
    refine ifd (fun h => ?_) (fun h => ?_)
    · obtain ⟨t, ht⟩ := at_some (l := l) (i := i) (by omega)
      have hc := Tm.cnts_take ht
      have hc' := Tm.cnts_le l (i + 1)
      obtain ⟨ad, p, hel, hr⟩ := Tm.elem hsl ht
      refine elem_intro hel ?_
      intro r2
      refine ifd (fun h => ret_gives ?_ rfl) (fun h => ?_)
      · simp only [Tm.cnt, upTo] at h ⊢
        congr 1; omega
      · have hb : upTo (1 + Tm.cnts (l.take i) : Nat) most ≤ 1000000000001 ∧ 1 ≤ upTo (1 + Tm.cnts (l.take i) : Nat) most := by unfold upTo; omega
        refine num64 (by omega) (by omega) ?_
        refine call_gives (ih t (mem_at ht) hr (by omega) (by omega)) ?_
        refine num_eq (x := upTo (1 + Tm.cnts (l.take (i + 1)) : Nat) most) ?_ ?_
        · have hb2 : upTo (t.cnt : Int) (most - upTo (1 + Tm.cnts (l.take i) : Nat) most) ≤ 1000000000001 ∧ 1 ≤ upTo (t.cnt : Int) (most - upTo (1 + Tm.cnts (l.take i) : Nat) most) := by
            have := t.cnt_pos
            unfold upTo at hb h ⊢
            omega
          rw [wrap64 (by omega) (by omega), hc]
          unfold upTo at h ⊢; omega
        · exact num64 (by omega) (by omega) ⟨i + 1, by omega, by omega, ⟨⟨rfl, rfl, rfl, rfl, rfl, trivial⟩, trivial, rfl, rfl⟩⟩
    · obtain rfl : i = l.length := by omega
      rw [List.take_length]
      exact ret_gives rfl rfl
set_option maxRecDepth 20000 in
theorem l02Shape_spec : ∀ (t : Tm) {v : Value}, RepV μ t.d v → t.d.wd → Gives Try.prog 80 [v] μ (.bool (decide t.Sh)) :=
  Tm.ind fun k n s l ih v hv hw => by
    obtain ⟨base, cap, rfl, hsl⟩ := Tm.inv hv
    have hn := maxLen_le hsl.max
    rw [Tm.d_mk] at hw
    have hs : s.size ≤ maxLen := hw.2.2.1
    have hws := D.wds_mem (xs := l.map Tm.d) hw.2.2.2.1
    have hiff := Tm.Sh_iff' k n s l
    refine Spec.mk Try.func80 (by kernel_rfl) ?_
    intro r
    repeat' (first
      | refine ifd (fun h => ?_) (fun h => ?_)
      | refine ifnd (fun h => ?_) (fun h => ?_)
      | refine if_intro (fun h => ?_) (fun h => ?_))
    all_goals first
      | (exfalso; clear ih hsl hv hw hws hiff; first | omega | contradiction)
      | (refine ret_gives (isF fun hS => ?_) rfl; clear ih hsl hv hw hws; rcases hiff.1 hS with ⟨e1, e2, e3, e4⟩ | ⟨e1, e2, e3, e4, e5⟩ | ⟨e1, e2, e3, e4⟩ | ⟨e1, e2, e3, e4, e5⟩ | ⟨e1, e2, e3, e4, e5⟩ <;> first | omega | contradiction | (subst_vars; contradiction))
      | (refine ret_gives (isT (hiff.2 (.inl ⟨?_, ?_, ?_, ?_⟩))) rfl <;> first | omega | assumption)
      | (refine call_gives (l01In_spec _ _ _ _) (ret_gives (isI (p := (0 : Int) ≤ n ∧ n ≤ 100000) (hiff.trans ⟨fun hh => ?_, fun hh => .inr (.inl ⟨by omega, hh.1, hh.2, by assumption, by omega⟩)⟩).symm) rfl); rcases hh with ⟨e1, e2, e3, e4⟩ | ⟨e1, e2, e3, e4, e5⟩ | ⟨e1, e2, e3, e4⟩ | ⟨e1, e2, e3, e4, e5⟩ | ⟨e1, e2, e3, e4, e5⟩ <;> first | omega | exact ⟨by omega, by omega⟩)
      | (refine call_gives (l01In_spec _ _ _ _) (ret_gives (isI (p := (-1000000000 : Int) ≤ n ∧ n ≤ 1000000000) (hiff.trans ⟨fun hh => ?_, fun hh => .inr (.inr (.inr (.inl ⟨by omega, hh.1, hh.2, by assumption, by omega⟩)))⟩).symm) rfl); rcases hh with ⟨e1, e2, e3, e4⟩ | ⟨e1, e2, e3, e4, e5⟩ | ⟨e1, e2, e3, e4⟩ | ⟨e1, e2, e3, e4, e5⟩ | ⟨e1, e2, e3, e4, e5⟩ <;> first | omega | exact ⟨by omega, by omega⟩)
      | (refine call_gives (spec_IsName_spec s hs _) (ret_gives (isI (p := IsNm s) (hiff.trans ⟨fun hh => ?_, fun hh => .inr (.inr (.inl ⟨by omega, by omega, hh, by omega⟩))⟩).symm) rfl); rcases hh with ⟨e1, e2, e3, e4⟩ | ⟨e1, e2, e3, e4, e5⟩ | ⟨e1, e2, e3, e4⟩ | ⟨e1, e2, e3, e4, e5⟩ | ⟨e1, e2, e3, e4, e5⟩ <;> first | omega | assumption)
      | skip
    have h2 := h
    obtain ⟨a, b, rfl⟩ := two_of h2
    obtain ⟨ad, p, hel, hra⟩ := Tm.elem (i := 0) hsl rfl
    obtain ⟨ad', p', hel', hrb⟩ := Tm.elem (i := 1) hsl rfl
    refine elem_intro hel (call_gives (ih a (by simp) hra (hws _ (by simp))) ?_)
    refine if_intro (fun h => ?_) (fun h => ?_)
    · refine elem_intro hel' (call_gives (ih b (by simp) hrb (hws _ (by simp))) (ret_gives (isI (hiff.trans ⟨fun hh => ?_, fun hh => ?_⟩).symm) rfl))
      · rcases hh with ⟨e1, e2, e3, e4⟩ | ⟨e1, e2, e3, e4, e5⟩ | ⟨e1, e2, e3, e4⟩ | ⟨e1, e2, e3, e4, e5⟩ | ⟨e1, e2, e3, e4, e5⟩ <;> first | omega | (obtain ⟨a', b', e, e6, e7⟩ := e5; cases e; assumption)
      · exact .inr (.inr (.inr (.inr ⟨by omega, by omega, by assumption, rfl, a, b, rfl, of_decide_eq_true h, hh⟩)))
    · refine ret_gives (isF fun hh => ?_) rfl
      replace hh := hiff.1 hh
      rcases hh with ⟨e1, e2, e3, e4⟩ | ⟨e1, e2, e3, e4, e5⟩ | ⟨e1, e2, e3, e4⟩ | ⟨e1, e2, e3, e4, e5⟩ | ⟨e1, e2, e3, e4, e5⟩ <;> first | omega | (obtain ⟨a', b', e, e6, e7⟩ := e5; cases e; exact absurd e6 (of_decide_eq_false h))
/-- 'nodesOf': the nodes of a well-formed term that fits; else -1. -/
noncomputable def Tm.nodes (t : Tm) (room : Int) : Int := if t.Sh ∧ (t.cnt : Int) ≤ room then t.cnt else -1
theorem Tm.nodes_neg {t : Tm} {room : Int} (h : ¬ (t.Sh ∧ (t.cnt : Int) ≤ room)) : Value.int .i64 (-1) = .int .i64 (t.nodes room) := by rw [Tm.nodes, if_neg h]
theorem Tm.nodes_pos {t : Tm} {room : Int} (h : t.Sh) (h2 : (t.cnt : Int) ≤ room) : t.nodes room = t.cnt := by rw [Tm.nodes, if_pos ⟨h, h2⟩]
theorem Tm.nodes_lt {t : Tm} {room : Int} (h : t.nodes room < 0) : ¬ (t.Sh ∧ (t.cnt : Int) ≤ room) := fun k => by rw [Tm.nodes, if_pos k] at h; omega
theorem Tm.nodes_ge {t : Tm} {room : Int} (h : ¬ t.nodes room < 0) : t.Sh ∧ (t.cnt : Int) ≤ room ∧ t.nodes room = t.cnt := by
  by_cases k : t.Sh ∧ (t.cnt : Int) ≤ room
  · exact ⟨k.1, k.2, by rw [Tm.nodes, if_pos k]⟩
  · rw [Tm.nodes, if_neg k] at h; omega
set_option maxRecDepth 20000 in
theorem nodesOf_spec : ∀ (t : Tm) {v : Value} {room : Int}, RepV μ t.d v → -1000000000000 ≤ room → room ≤ 1000000000000 → Gives Try.prog 84 [v, .int .i64 room] μ (.int .i64 (t.nodes room)) :=
  Tm.ind fun k n s l ih v room hv hr1 hr2 => by
    obtain ⟨base, cap, rfl, hsl⟩ := Tm.inv hv
    have hn := maxLen_le hsl.max
    have hiff := Tm.Sh_iff' k n s l
    have hone : l.length = 0 → (Tm.mk k n s l).cnt = 1 := fun h => by
      obtain rfl := List.eq_nil_of_length_eq_zero h
      rfl
    have hpos := Tm.cnt_pos (.mk k n s l)
    refine Spec.mk Try.func84 (by kernel_rfl) ?_
    intro r
    refine ifd (fun h0 => ret_gives (Tm.nodes_neg fun hh => by omega) rfl) (fun h0 => ?_)
    have hgood : (Tm.mk k n s l).Sh → l.length = 0 → Value.int .i64 1 = .int .i64 ((Tm.mk k n s l).nodes room) := fun h1 h2 => by
      have := hone h2
      rw [Tm.nodes_pos h1 (by omega), this]; rfl
    refine ifnd (fun hk => ?_) (fun hk => ?_)
    · repeat' (first
        | refine ifd (fun h => ?_) (fun h => ?_)
        | refine ifnd (fun h => ?_) (fun h => ?_)
        | refine if_intro (fun h => ?_) (fun h => ?_)
        | refine call_gives (impl_IsName_spec s _) ?_)
      all_goals first
        | (exfalso; clear ih hsl hv hiff; first | omega | contradiction)
        | (refine ret_gives (Tm.nodes_neg fun hS => ?_) rfl; have hh := hiff.1 hS.1; clear ih hsl hv; rcases hh with ⟨e1, e2, e3, e4⟩ | ⟨e1, e2, e3, e4, e5⟩ | ⟨e1, e2, e3, e4⟩ | ⟨e1, e2, e3, e4, e5⟩ | ⟨e1, e2, e3, e4, e5⟩ <;> first | omega | contradiction | (subst_vars; contradiction))
        | (refine ret_gives (hgood (hiff.2 (.inl ⟨?_, ?_, ?_, ?_⟩)) (by omega)) rfl <;> first | omega | assumption; done)
        | (refine ret_gives (hgood (hiff.2 (.inr (.inl ⟨?_, ?_, ?_, ?_, ?_⟩))) (by omega)) rfl <;> first | omega | assumption; done)
        | (refine ret_gives (hgood (hiff.2 (.inr (.inr (.inl ⟨?_, ?_, ?_, ?_⟩)))) (by omega)) rfl <;> first | omega | assumption; done)
        | (refine ret_gives (hgood (hiff.2 (.inr (.inr (.inr (.inl ⟨?_, ?_, ?_, ?_, ?_⟩))))) (by omega)) rfl <;> first | omega | assumption; done)
        | trace_state
    · refine ifnd (fun h1 => ?_) (fun h1 => ?_)
      · refine ret_gives (Tm.nodes_neg fun hS => ?_) rfl; have hh := hiff.1 hS.1; clear ih hsl hv
        rcases hh with ⟨e1, e2, e3, e4⟩ | ⟨e1, e2, e3, e4, e5⟩ | ⟨e1, e2, e3, e4⟩ | ⟨e1, e2, e3, e4, e5⟩ | ⟨e1, e2, e3, e4, e5⟩ <;> omega
      refine ifnd (fun h2 => ?_) (fun h2 => ?_)
      · refine ret_gives (Tm.nodes_neg fun hS => ?_) rfl; have hh := hiff.1 hS.1; clear ih hsl hv
        rcases hh with ⟨e1, e2, e3, e4⟩ | ⟨e1, e2, e3, e4, e5⟩ | ⟨e1, e2, e3, e4⟩ | ⟨e1, e2, e3, e4, e5⟩ | ⟨e1, e2, e3, e4, e5⟩ <;> first | omega | contradiction
      refine ifnd (fun h3 => ?_) (fun h3 => ?_)
      · refine ret_gives (Tm.nodes_neg fun hS => ?_) rfl; have hh := hiff.1 hS.1; clear ih hsl hv
        rcases hh with ⟨e1, e2, e3, e4⟩ | ⟨e1, e2, e3, e4, e5⟩ | ⟨e1, e2, e3, e4⟩ | ⟨e1, e2, e3, e4, e5⟩ | ⟨e1, e2, e3, e4, e5⟩ <;> omega
      obtain ⟨a, b, rfl⟩ := two_of h3
      have hcnt : (Tm.mk k n s [a, b]).cnt = 1 + a.cnt + b.cnt := by simp [Tm.cnt, Tm.cnts]; omega
      have hsh : (Tm.mk k n s [a, b]).Sh → a.Sh ∧ b.Sh := fun hS => by
        have hh := hiff.1 hS
        rcases hh with ⟨e1, e2, e3, e4⟩ | ⟨e1, e2, e3, e4, e5⟩ | ⟨e1, e2, e3, e4⟩ | ⟨e1, e2, e3, e4, e5⟩ | ⟨e1, e2, e3, e4, e5⟩ <;> first | omega | (obtain ⟨a', b', e, e6, e7⟩ := e5; cases e; exact ⟨e6, e7⟩)
      obtain ⟨ad, p, hel, hra⟩ := Tm.elem (i := 0) hsl rfl
      obtain ⟨ad', p', hel', hrb⟩ := Tm.elem (i := 1) hsl rfl
      refine elem_intro hel (num64 (by omega) (by omega) (call_gives (ih a (by simp) hra (by omega) (by omega)) ?_))
      refine ifd (fun h4 => ?_) (fun h4 => ?_)
      · have := Tm.nodes_lt h4
        refine ret_gives (Tm.nodes_neg fun hS => this ⟨(hsh hS.1).1, ?_⟩) rfl
        have := hS.2; rw [hcnt] at this; omega
      obtain ⟨g1, g2, g3⟩ := Tm.nodes_ge h4
      have := a.cnt_pos
      refine elem_intro hel' (num64 (by omega) (by omega) (num64 (by omega) (by omega) (call_gives (ih b (by simp) hrb (by omega) (by omega)) ?_)))
      refine ifd (fun h5 => ?_) (fun h5 => ?_)
      · have := Tm.nodes_lt h5
        refine ret_gives (Tm.nodes_neg fun hS => this ⟨(hsh hS.1).2, ?_⟩) rfl
        have := hS.2; rw [hcnt] at this; omega
      obtain ⟨g4, g5, g6⟩ := Tm.nodes_ge h5
      refine num64 (by omega) (by omega) (num64 (by omega) (by omega) (ret_gives ?_ rfl))
      rw [Tm.nodes_pos (hiff.2 (.inr (.inr (.inr (.inr ⟨by omega, by omega, by assumption, rfl, a, b, rfl, g1, g4⟩))))) (by rw [hcnt]; omega), hcnt]
      congr 1; omega
end
end Go.Vx

/- Contracts: well-formed terms, lists of them; ground terms. -/
namespace Go.Vx
open Go.Proofs Classical
section
variable {μ : Mem}
theorem Tm.v_eq {t : Tm} {v : Value} (h : RepV μ t.d v) : ∃ p : Option Addr × Nat, v = .agg #[.int .i64 t.kind, .int .i64 t.num, .string t.name, .slice p.1 t.args.length p.2] := Tm.invV h
theorem spec_TermOk_spec (t : Tm) {v : Value} (hv : RepV μ t.d v) (hw : t.d.wd) : Gives Try.prog 52 [v] μ (.bool (decide t.Ok)) := by
  obtain ⟨p, rfl⟩ := Tm.invV hv
  refine Spec.mk Try.func52 (by kernel_rfl) ?_
  intro r
  refine call_gives (l02Count_spec t hv (by decide) (by decide)) ?_
  refine ifd (fun h => ?_) (fun h => ret_gives (isF fun hh => ?_) rfl)
  · refine call_gives (l02Shape_spec t hv hw) (ret_gives (isI ⟨fun hh => ⟨hh, ?_⟩, fun hh => hh.1⟩) rfl)
    unfold upTo at h; omega
  · have := hh.2; unfold upTo at h; omega
theorem impl_TermOk_spec (t : Tm) {v : Value} (hv : RepV μ t.d v) : Gives Try.prog 57 [v] μ (.bool (decide t.Ok)) := by
  obtain ⟨p, rfl⟩ := Tm.invV hv
  refine Spec.mk Try.func57 (by kernel_rfl) ?_
  intro r
  refine call_gives (nodesOf_spec t hv (by decide) (by decide)) (ret_gives (isI ⟨fun hh => ?_, fun hh => ?_⟩) rfl)
  · obtain ⟨h1, h2, _⟩ := Tm.nodes_ge (by omega : ¬ t.nodes 5000 < 0)
    exact ⟨h1, by omega⟩
  · rw [Tm.nodes_pos hh.1 (by have := hh.2; omega)]
    have := t.cnt_pos; omega
theorem l02AllOk_spec {l : List Tm} {base : Option Addr} {cap : Nat} (hsl : Sl μ 4 base l.length (l.map Tm.d)) (hw : D.wds (l.map Tm.d)) : Gives Try.prog 47 [.slice base l.length cap] μ (.bool (decide (∀ t ∈ l, t.Ok))) := by
    have hn := maxLen_le hsl.max
    refine Spec.mk Try.func47 (by kernel_rfl) ?_
    refine loop_intro (fun i : Nat => i ≤ l.length ∧ ∀ t ∈ l.take i, t.Ok) (fun i => ⟨[(5, .val (.slice base l.length cap)), (6, .val (.int .i64 l.length)), (7, .val (.int .i64 i))], [], 0, μ, Mem.nil⟩) (fun i => l.length - i)
      0 ⟨by omega, by simp⟩ (fun i => ⟨rfl, rfl⟩) ⟨⟨rfl, rfl, rfl, trivial⟩, trivial, rfl, rfl⟩ ?_
    rintro i ⟨hi, hall⟩
    refine ifd (fun h => ?_) (fun h => ?_)
    · obtain ⟨t, ht⟩ := at_some (l := l) (i := i) (by omega)
      obtain ⟨ad, p, hel, hr⟩ := Tm.elem hsl ht
      refine elem_intro hel ?_
      intro r
      refine call_gives (spec_TermOk_spec t hr (D.wds_mem hw _ (mem_at (at_map (f := Tm.d) ht)))) ?_
      refine ifnd (fun h => ret_gives (isF fun hh => h (hh t (mem_at ht))) rfl) (fun h => ?_)
      refine num64 (by omega) (by omega) ⟨i + 1, ⟨by omega, fun x hx => ?_⟩, by omega, ⟨⟨rfl, rfl, rfl, trivial⟩, trivial, rfl, rfl⟩⟩
      rw [List.take_add_one, ht, Option.toList_some, List.mem_append, List.mem_singleton] at hx
      rcases hx with hx | rfl
      · exact hall x hx
      · exact h
    · obtain rfl : i = l.length := by omega
      rw [List.take_length] at hall
      exact ret_gives (isT hall) rfl
theorem termsOk_spec {l : List Tm} {base : Option Addr} {cap : Nat} (hsl : Sl μ 4 base l.length (l.map Tm.d)) : Gives Try.prog 49 [.slice base l.length cap] μ (.bool (decide (∀ t ∈ l, t.Ok))) := by
    have hn := maxLen_le hsl.max
    refine Spec.mk Try.func49 (by kernel_rfl) ?_
    refine loop_intro (fun i : Nat => i ≤ l.length ∧ ∀ t ∈ l.take i, t.Ok) (fun i => ⟨[(5, .val (.slice base l.length cap)), (6, .val (.int .i64 l.length)), (7, .val (.int .i64 i))], [], 0, μ, Mem.nil⟩) (fun i => l.length - i)
      0 ⟨by omega, by simp⟩ (fun i => ⟨rfl, rfl⟩) ⟨⟨rfl, rfl, rfl, trivial⟩, trivial, rfl, rfl⟩ ?_
    rintro i ⟨hi, hall⟩
    refine ifd (fun h => ?_) (fun h => ?_)
    · obtain ⟨t, ht⟩ := at_some (l := l) (i := i) (by omega)
      obtain ⟨ad, p, hel, hr⟩ := Tm.elem hsl ht
      refine elem_intro hel ?_
      intro r
      refine call_gives (impl_TermOk_spec t hr) ?_
      refine ifnd (fun h => ret_gives (isF fun hh => h (hh t (mem_at ht))) rfl) (fun h => ?_)
      refine num64 (by omega) (by omega) ⟨i + 1, ⟨by omega, fun x hx => ?_⟩, by omega, ⟨⟨rfl, rfl, rfl, trivial⟩, trivial, rfl, rfl⟩⟩
      rw [List.take_add_one, ht, Option.toList_some, List.mem_append, List.mem_singleton] at hx
      rcases hx with hx | rfl
      · exact hall x hx
      · exact h
    · obtain rfl : i = l.length := by omega
      rw [List.take_length] at hall
      exact ret_gives (isT hall) rfl
end
end Go.Vx

/- Contracts: the variables of a term, visited in order; ground terms. -/
namespace Go.Vx
open Go.Proofs Classical
section
variable {μ : Mem}
/-- The parts of a pair. -/
theorem T.parts {a b : T} {base : Option Addr} {n : Nat} (h : Sl μ 4 base n ([a.tm, b.tm].map Tm.d)) : ∃ ad ad', ∃ p p' : Option Addr × Nat, ElemAt μ base n 4 ((0 : Nat) : Int) ad (a.tm.cs p) ∧ ElemAt μ base n 4 ((1 : Nat) : Int) ad' (b.tm.cs p') ∧ RepV μ a.tm.d (.agg (a.tm.cs p).toArray) ∧ RepV μ b.tm.d (.agg (b.tm.cs p').toArray) := by
  obtain ⟨ad, p, h1, h2⟩ := Tm.elem (i := 0) h rfl
  obtain ⟨ad', p', h3, h4⟩ := Tm.elem (i := 1) h rfl
  exact ⟨ad, ad', p, p', h1, h3, h2, h4⟩
theorem eachVar_spec {S : Type} (hp : S → Mem) (step : S → Int → S) {k : FuncId} {caps : List Value} {Q : Int → Prop}
    (hc : ∀ s n, Q n → SpecH Try.prog k (.int .i64 n :: caps) μ (hp s) fun r μ' h' => r = .tuple #[] ∧ μ' = μ ∧ h' = hp (step s n)) :
    ∀ (x : T) {v : Value} (s : S), RepV μ x.tm.d v → (∀ n ∈ x.vars, Q n) → SpecH Try.prog 77 [v, .func (.func k) #[] caps.toArray] μ (hp s) fun r μ' h' => r = .tuple #[] ∧ μ' = μ ∧ h' = hp (x.vars.foldl step s)
  | .var n, v, s, hv, hq => by
    obtain ⟨base, cap, rfl, hsl⟩ := Tm.inv hv
    refine SpecH.mk [] Try.func77 (by kernel_rfl) ?_
    intro r
    refine ifd (fun _ => ?_) (fun h => absurd rfl h)
    refine call_own (hc s n (hq n (by simp [T.vars]))) fun v μ' h' hle hap hR => ?_
    obtain ⟨rfl, rfl, rfl⟩ := hR
    refine ifd (fun h => absurd h (by decide)) (fun _ => ?_)
    exact ret_plain ⟨rfl, rfl, rfl⟩
  | .nil, v, s, hv, hq => by
    obtain ⟨base, cap, rfl, hsl⟩ := Tm.inv hv
    refine SpecH.mk [] Try.func77 (by kernel_rfl) ?_
    intro r
    refine ifd (fun h => absurd h (by decide)) (fun _ => ?_)
    refine ifd (fun h => absurd h (by decide)) (fun _ => ?_)
    exact ret_plain ⟨rfl, rfl, rfl⟩
  | .sym _, v, s, hv, hq => by
    obtain ⟨base, cap, rfl, hsl⟩ := Tm.inv hv
    refine SpecH.mk [] Try.func77 (by kernel_rfl) ?_
    intro r
    refine ifd (fun h => absurd h (by decide)) (fun _ => ?_)
    refine ifd (fun h => absurd h (by decide)) (fun _ => ?_)
    exact ret_plain ⟨rfl, rfl, rfl⟩
  | .num _, v, s, hv, hq => by
    obtain ⟨base, cap, rfl, hsl⟩ := Tm.inv hv
    refine SpecH.mk [] Try.func77 (by kernel_rfl) ?_
    intro r
    refine ifd (fun h => absurd h (by decide)) (fun _ => ?_)
    refine ifd (fun h => absurd h (by decide)) (fun _ => ?_)
    exact ret_plain ⟨rfl, rfl, rfl⟩
  | .pair a b, v, s, hv, hq => by
    obtain ⟨base, cap, rfl, hsl⟩ := Tm.inv hv
    obtain ⟨ad, ad', p, p', h1, h2, hra, hrb⟩ := T.parts hsl
    refine SpecH.mk [] Try.func77 (by kernel_rfl) ?_
    intro r
    refine ifd (fun h => absurd h (by decide)) (fun _ => ?_)
    refine ifd (fun _ => ?_) (fun h => absurd rfl h)
    refine elem_intro h1 (call_own (eachVar_spec hp step hc a s hra fun n hn => hq n (by simp [T.vars, hn])) fun v μ' h' hle hap hR => ?_)
    obtain ⟨rfl, e2, rfl⟩ := hR
    obtain rfl := e2.symm
    refine elem_intro h2 (call_own (eachVar_spec hp step hc b _ hrb fun n hn => hq n (by simp [T.vars, hn])) fun v μ' h' hle hap hR => ?_)
    obtain ⟨rfl, e2, rfl⟩ := hR
    obtain rfl := e2.symm
    exact ret_plain ⟨rfl, rfl, by simp [T.vars]⟩
/-- A cell of one's own that a closure turns. -/
def boolAt (r : Nat) (b : Bool) : Mem := Mem.nil.set r (.cells #[.bool b] 4 (0, 0))
theorem set_nil (r : Nat) (o o' : Obj) : (Mem.nil.set r o).set r o' = Mem.nil.set r o' := Mem.set_set _ _ _ _
theorem set_self (h : Mem) (r : Nat) (o : Obj) : h.set r o r = some o := by simp [Mem.set_get]
theorem isGround1_spec (r : Nat) (b : Bool) (n : Int) : SpecH Try.prog 78 [.int .i64 n, .pointer (some ⟨r, 0, none⟩)] μ (boolAt r b) fun v μ' h' => v = .tuple #[] ∧ μ' = μ ∧ h' = boolAt r false := by
  refine SpecH.mk [] Try.func78 (by kernel_rfl) ?_
  refine sto_intro (h := boolAt r b) (a := ⟨r, 0, none⟩) [.bool b] 4 (set_self _ _ _) rfl ?_ ?_
  · exact Nat.le_refl _
  exact ret_plain ⟨rfl, rfl, set_nil _ _ _⟩
theorem isGround_spec (x : T) {v : Value} (hv : RepV μ x.tm.d v) : Gives Try.prog 50 [v] μ (.bool (decide (x.vars = []))) := by
  obtain ⟨p, rfl⟩ := Tm.invV hv
  refine Spec.mkO [3] Try.func50 (by kernel_rfl) ?_
  intro r r2 h1 h2
  refine sto_intro [.bool false] 4 (set_self _ _ _) rfl ?_ ?_
  · exact Nat.le_refl _
  have e : ((Mem.nil.set r2 (.cells #[.bool false] 4 (0, 0))).set r2 (.cells #[.bool true] 4 (0, 0))) = boolAt r2 true := set_nil _ _ _
  refine call_own (R := fun r μ' h' => r = .tuple #[] ∧ μ' = μ ∧ h' = boolAt r2 (x.vars.foldl (fun _ _ => false) true)) ?_ fun v μ' h' hle hap hR => ?_
  · have := eachVar_spec (boolAt r2) (fun _ _ => false) (Q := fun _ => True) (fun s n _ => isGround1_spec r2 s n) x true hv (fun _ _ => trivial)
    rw [← e] at this
    exact this
  obtain ⟨rfl, rfl, rfl⟩ := hR
  refine own_intro [.bool (x.vars.foldl (fun _ _ => false) true)] rfl (fun j v hj => ?_) ?_
  · match j, hj with
    | 0, hj => cases hj; simp [boolAt, Mem.cell, Addr.add_lit', set_self]
  · refine ret_plain ⟨?_, rfl⟩
    have : ∀ (l : List Int) (b : Bool), l.foldl (fun _ _ => false) b = if l = [] then b else false := fun l => by
      induction l with
      | nil => simp
      | cons a l ih => intro b; simp only [List.foldl_cons, ih]; simp
    rw [this]
    by_cases h : x.vars = [] <;> simp [h]
end
end Go.Vx

/- Contracts: sets of numbers; the variables of a term as the reference lists them. -/
namespace Go.Vx
open Go.Proofs Classical
def ints (l : List Int) : List Value := l.map fun n => .int .i64 n
theorem ints_flat : ∀ l : List Int, (ints l).flatMap vcells = ints l
  | [] => rfl
  | n :: l => by
    have := ints_flat l
    simp only [ints] at this ⊢
    simp [this, vcells]
section
variable {μ : Mem}
theorem Ints.elem {l : List Int} {base : Option Addr} {n : Nat} (h : Sl μ 1 base n (l.map D.i)) {i : Nat} {x : Int} (hx : l[i]? = some x) : ∃ ad, ElemAt μ base n 1 i ad [.int .i64 x] := by
  obtain ⟨ad, cs, h1, h2⟩ := h.get i (.i x) (by simp [hx])
  have h2 : cs = [.int .i64 x] := h2
  subst h2
  exact ⟨ad, h1⟩
theorem Ints.rows : ∀ l : List Int, Rows μ 1 (l.map D.i) (ints l)
  | [] => .nil
  | n :: l => .cons (show RepV μ (.i n) (.int .i64 n) from rfl) rfl (Ints.rows l)
theorem Ints.sl {b : Option Nat} {cap : Nat} {l : List Int} (h : RowAt μ b cap 1 (ints l)) (hm : l.length ≤ maxLen) : RepV μ (.sl 1 (l.map D.i)) (.slice (b.map fun r => ⟨r, 0, none⟩) (ints l).length cap) :=
  Rows.sl h (Ints.rows l) (by simpa [ints] using hm)
theorem Ints.src {l : List Int} {base : Option Addr} (h : Sl μ 1 base l.length (l.map D.i)) {a b cap : Nat} (hab : a ≤ b) (hb : b ≤ l.length) (hc : l.length ≤ cap) : SrcAt μ (if cap = a then base else base.map (·.add (a * 1))) (b - a) 1 (ints ((l.drop a).take (b - a))) := by
  refine ⟨by simp [ints]; omega, fun y hy => ?_, ?_⟩
  · obtain ⟨n, _, rfl⟩ := List.mem_map.1 hy
    exact ⟨rfl, fun u hu => by simp [vcells] at hu; subst hu; rfl⟩
  · rcases Nat.eq_or_lt_of_le hab with h0 | h0
    · exact .inl (by omega)
    · right
      obtain ⟨x, hx⟩ := at_some (l := l) (i := a) (by omega)
      obtain ⟨_, hel⟩ := Ints.elem h hx
      obtain ⟨a0, e, _⟩ := hel.addr
      refine ⟨a0.add (a * 1), by rw [if_neg (by omega), e]; rfl, fun j v hj => ?_⟩
      rw [ints_flat] at hj
      simp only [ints, List.getElem?_map] at hj
      obtain ⟨y, hy, rfl⟩ := Option.map_eq_some_iff.1 hj
      rw [List.getElem?_take] at hy
      split at hy
      · rw [List.getElem?_drop] at hy
        obtain ⟨ad, hel2⟩ := Ints.elem h hy
        obtain ⟨a1, e1, e2⟩ := hel2.addr
        rw [e] at e1
        cases e1
        have := hel2.cell 0 _ rfl
        rw [e2, add_add] at this
        rw [add_add]
        rw [← this]
        congr 2
        simp
        omega
      · cases hy
def insInt (l : List Int) (n : Int) (k : Nat) : List Int := l.take k ++ ([n] ++ l.drop k)
theorem insInt_mem (l : List Int) (n : Int) (k : Nat) (x : Int) : x ∈ insInt l n k ↔ x = n ∨ x ∈ l := by
  have := List.take_append_drop k l
  have h2 : x ∈ l ↔ x ∈ l.take k ∨ x ∈ l.drop k := by rw [← List.mem_append, this]
  simp only [insInt, List.mem_append, List.mem_singleton, h2]
  constructor
  · rintro (h | h | h) <;> simp [h]
  · rintro (h | h | h) <;> simp [h]
/-- A list of numbers, out of an insertion. -/
def InsOf (μ' : Mem) (l : List Int) (n : Int) (v : Value) : Prop := ∃ r : List Int, RepV μ' (.sl 1 (r.map D.i)) v ∧ (∀ x, x ∈ r ↔ x = n ∨ x ∈ l) ∧ r.length ≤ l.length + 1
theorem l02Insert_spec {l : List Int} {v : Value} {n : Int} (hv : RepV μ (.sl 1 (l.map D.i)) v) (hb : l.length ≤ 1000000000) : Spec Try.prog 93 [v, .int .i64 n] μ fun v μ' => InsOf μ' l n v := by
  obtain ⟨base, cap, rfl, hsl⟩ := Rep.sl hv
  have hcap := Rep.lens hv
  rw [List.length_map] at hsl hcap hv ⊢
  refine Spec.mk Try.func93 (by kernel_rfl) ?_
  refine loop_intro (fun k : Nat => k ≤ l.length) (fun k => ⟨[(0, .val (.slice base l.length cap)), (1, .val (.int .i64 n)), (5, .val (.int .i64 k))], [], 0, μ, Mem.nil⟩) (fun k => k)
    l.length (Nat.le_refl _) (fun i => ⟨rfl, rfl⟩) ⟨⟨rfl, rfl, rfl, trivial⟩, trivial, rfl, rfl⟩ ?_
  intro k hk
  refine ifd (fun h1 => ?_) (fun h1 => ?_)
  · obtain ⟨x, hx⟩ := at_some (l := l) (i := k - 1) (by omega)
    obtain ⟨ad, hel⟩ := Ints.elem hsl hx
    refine num_eq (x := ((k - 1 : Nat) : Int)) (by rw [wrap64 (by omega) (by omega)]; omega) ?_
    refine elem_intro hel ?_
    refine ifd (fun h2 => ?_) (fun h2 => ?_)
    · exact num_eq (x := ((k - 1 : Nat) : Int)) (by rw [wrap64 (by omega) (by omega)]; omega) ⟨k - 1, by omega, by omega, ⟨⟨rfl, rfl, rfl, trivial⟩, trivial, rfl, rfl⟩⟩
    · refine ifd (fun h3 => ?_) (fun h3 => ?_)
      · obtain ⟨y, hy⟩ := at_some (l := l) (i := k) (by omega)
        obtain ⟨ad2, hel2⟩ := Ints.elem hsl hy
        refine elem_intro hel2 ?_
        refine ifd (fun h4 => ret_plain ⟨l, hv, fun x => ⟨.inr, fun hx => hx.elim (fun e => by rw [e, ← h4]; exact mem_at hy) id⟩, by omega⟩) (fun h4 => ?_)
        intro r0
        refine cut_intro 0 k rfl rfl (by omega) (by omega) ?_
        refine src_intro _ (Ints.src hsl (a := 0) (b := k) (by omega) hk hcap) ?_
        refine grow_intro ?_ ?_ fun b1 c1 _ => ?_
        · show (0 + (ints _).length) * 8 ≤ _; simp [ints]; omega
        · show 0 + (ints _).length ≤ 9223372036854775807; simp [ints]; omega
        intro r1
        refine grow_intro ?_ ?_ fun b2 c2 _ => ?_
        · show (([] ++ ints _).length + 1) * 8 ≤ _; simp [ints]; omega
        · show ([] ++ ints _).length + 1 ≤ 9223372036854775807; simp [ints]; omega
        refine cut_intro k l.length rfl rfl hk (by omega) ?_
        refine src_intro _ (Ints.src hsl (a := k) (b := l.length) hk (Nat.le_refl _) hcap) ?_
        refine grow_intro ?_ ?_ fun b3 c3 _ => ?_
        · show (([] ++ ints _ ++ [_]).length + (ints _).length) * 8 ≤ _; simp [ints]; omega
        · show ([] ++ ints _ ++ [_]).length + (ints _).length ≤ 9223372036854775807; simp [ints]; omega
        refine ret_frz [0] fun μ' hle hno hrow => .inl ⟨insInt l n k, ?_, insInt_mem l n k, ?_⟩
        · have e : [] ++ ints ((l.drop 0).take (k - 0)) ++ [.int .i64 n] ++ ints ((l.drop k).take (l.length - k)) = ints (insInt l n k) := by
            simp [ints, insInt]
            rw [List.take_of_length_le (by simp)]
          rw [e] at hrow ⊢
          exact Ints.sl hrow (Nat.le_trans (m := 2000000000) (by simp [insInt]; omega) (by decide))
        · simp [insInt]; omega
      · intro r0
        refine cut_intro 0 k rfl rfl (by omega) (by omega) ?_
        refine src_intro _ (Ints.src hsl (a := 0) (b := k) (by omega) hk hcap) ?_
        refine grow_intro ?_ ?_ fun b1 c1 _ => ?_
        · show (0 + (ints _).length) * 8 ≤ _; simp [ints]; omega
        · show 0 + (ints _).length ≤ 9223372036854775807; simp [ints]; omega
        intro r1
        refine grow_intro ?_ ?_ fun b2 c2 _ => ?_
        · show (([] ++ ints _).length + 1) * 8 ≤ _; simp [ints]; omega
        · show ([] ++ ints _).length + 1 ≤ 9223372036854775807; simp [ints]; omega
        refine cut_intro k l.length rfl rfl hk (by omega) ?_
        refine src_intro _ (Ints.src hsl (a := k) (b := l.length) hk (Nat.le_refl _) hcap) ?_
        refine grow_intro ?_ ?_ fun b3 c3 _ => ?_
        · show (([] ++ ints _ ++ [_]).length + (ints _).length) * 8 ≤ _; simp [ints]; omega
        · show ([] ++ ints _ ++ [_]).length + (ints _).length ≤ 9223372036854775807; simp [ints]; omega
        refine ret_frz [0] fun μ' hle hno hrow => .inl ⟨insInt l n k, ?_, insInt_mem l n k, ?_⟩
        · have e : [] ++ ints ((l.drop 0).take (k - 0)) ++ [.int .i64 n] ++ ints ((l.drop k).take (l.length - k)) = ints (insInt l n k) := by
            simp [ints, insInt]
            rw [List.take_of_length_le (by simp)]
          rw [e] at hrow ⊢
          exact Ints.sl hrow (Nat.le_trans (m := 2000000000) (by simp [insInt]; omega) (by decide))
        · simp [insInt]; omega
  · refine ifd (fun h3 => ?_) (fun h3 => ?_)
    · obtain ⟨y, hy⟩ := at_some (l := l) (i := k) (by omega)
      obtain ⟨ad2, hel2⟩ := Ints.elem hsl hy
      refine elem_intro hel2 ?_
      refine ifd (fun h4 => ret_plain ⟨l, hv, fun x => ⟨.inr, fun hx => hx.elim (fun e => by rw [e, ← h4]; exact mem_at hy) id⟩, by omega⟩) (fun h4 => ?_)
      intro r0
      refine cut_intro 0 k rfl rfl (by omega) (by omega) ?_
      refine src_intro _ (Ints.src hsl (a := 0) (b := k) (by omega) hk hcap) ?_
      refine grow_intro ?_ ?_ fun b1 c1 _ => ?_
      · show (0 + (ints _).length) * 8 ≤ _; simp [ints]; omega
      · show 0 + (ints _).length ≤ 9223372036854775807; simp [ints]; omega
      intro r1
      refine grow_intro ?_ ?_ fun b2 c2 _ => ?_
      · show (([] ++ ints _).length + 1) * 8 ≤ _; simp [ints]; omega
      · show ([] ++ ints _).length + 1 ≤ 9223372036854775807; simp [ints]; omega
      refine cut_intro k l.length rfl rfl hk (by omega) ?_
      refine src_intro _ (Ints.src hsl (a := k) (b := l.length) hk (Nat.le_refl _) hcap) ?_
      refine grow_intro ?_ ?_ fun b3 c3 _ => ?_
      · show (([] ++ ints _ ++ [_]).length + (ints _).length) * 8 ≤ _; simp [ints]; omega
      · show ([] ++ ints _ ++ [_]).length + (ints _).length ≤ 9223372036854775807; simp [ints]; omega
      refine ret_frz [0] fun μ' hle hno hrow => .inl ⟨insInt l n k, ?_, insInt_mem l n k, ?_⟩
      · have e : [] ++ ints ((l.drop 0).take (k - 0)) ++ [.int .i64 n] ++ ints ((l.drop k).take (l.length - k)) = ints (insInt l n k) := by
          simp [ints, insInt]
          rw [List.take_of_length_le (by simp)]
        rw [e] at hrow ⊢
        exact Ints.sl hrow (Nat.le_trans (m := 2000000000) (by simp [insInt]; omega) (by decide))
      · simp [insInt]; omega
    · intro r0
      refine cut_intro 0 k rfl rfl (by omega) (by omega) ?_
      refine src_intro _ (Ints.src hsl (a := 0) (b := k) (by omega) hk hcap) ?_
      refine grow_intro ?_ ?_ fun b1 c1 _ => ?_
      · show (0 + (ints _).length) * 8 ≤ _; simp [ints]; omega
      · show 0 + (ints _).length ≤ 9223372036854775807; simp [ints]; omega
      intro r1
      refine grow_intro ?_ ?_ fun b2 c2 _ => ?_
      · show (([] ++ ints _).length + 1) * 8 ≤ _; simp [ints]; omega
      · show ([] ++ ints _).length + 1 ≤ 9223372036854775807; simp [ints]; omega
      refine cut_intro k l.length rfl rfl hk (by omega) ?_
      refine src_intro _ (Ints.src hsl (a := k) (b := l.length) hk (Nat.le_refl _) hcap) ?_
      refine grow_intro ?_ ?_ fun b3 c3 _ => ?_
      · show (([] ++ ints _ ++ [_]).length + (ints _).length) * 8 ≤ _; simp [ints]; omega
      · show ([] ++ ints _ ++ [_]).length + (ints _).length ≤ 9223372036854775807; simp [ints]; omega
      refine ret_frz [0] fun μ' hle hno hrow => .inl ⟨insInt l n k, ?_, insInt_mem l n k, ?_⟩
      · have e : [] ++ ints ((l.drop 0).take (k - 0)) ++ [.int .i64 n] ++ ints ((l.drop k).take (l.length - k)) = ints (insInt l n k) := by
          simp [ints, insInt]
          rw [List.take_of_length_le (by simp)]
        rw [e] at hrow ⊢
        exact Ints.sl hrow (Nat.le_trans (m := 2000000000) (by simp [insInt]; omega) (by decide))
      · simp [insInt]; omega
theorem flatMap_take_le {α β : Type} (f : α → List β) (l : List α) (i : Nat) : ((l.take i).flatMap f).length ≤ (l.flatMap f).length := by
  have := congrArg (fun l => (l.flatMap f).length) (List.take_append_drop i l)
  simp only [List.flatMap_append, List.length_append] at this
  omega
/-- What a call has made may be forgotten. -/
theorem Spec.forget {P : Program} {f : FuncId} {args : List Value} {R : Value → Prop} (h : Spec P f args μ fun v _ => R v) : Spec P f args μ fun v μ' => R v ∧ μ' = μ := by
  refine ⟨h.1, fun w hm hh hap => (h.2 w hm hh hap).mono ?_⟩
  rintro e w' ⟨v, μ', h', rfl, hr, hS⟩
  exact ⟨v, μ, Mem.nil, rfl, ⟨hr, rfl⟩, ⟨Mem.Le.refl μ, hS.mem.le hS.le, holds_nil w', apart_nil _, fun b h1 h2 => absurd h1 h2, fun b hb => absurd rfl hb, hS.size, hS.keep, hS.os, hS.tape, hS.output⟩⟩
/-- The parts of a term. -/
def T.args : T → List T
  | .pair a b => [a, b]
  | .nil => []
  | .var _ => []
  | .sym _ => []
  | .num _ => []
theorem T.ind {p : T → Prop} (h : ∀ x : T, (∀ y ∈ x.args, p y) → p x) : ∀ x, p x
  | .pair a b => by
    have ha := T.ind h a
    have hb := T.ind h b
    refine h _ fun y hy => ?_
    simp only [T.args, List.mem_cons, List.not_mem_nil, or_false] at hy
    rcases hy with rfl | rfl
    · exact ha
    · exact hb
  | .nil => h _ fun y hy => by simp [T.args] at hy
  | .var _ => h _ fun y hy => by simp [T.args] at hy
  | .sym _ => h _ fun y hy => by simp [T.args] at hy
  | .num _ => h _ fun y hy => by simp [T.args] at hy
theorem T.tm_args (x : T) : x.tm.args = x.args.map T.tm := by cases x <;> rfl
theorem T.vars_args {x : T} (h : x.tm.kind ≠ 1) : x.vars = x.args.flatMap T.vars := by
  cases x <;> simp_all [T.vars, T.args, T.tm, Tm.kind]
theorem T.vars_size : ∀ x : T, x.vars.length ≤ x.size
  | .nil => by simp [T.vars]
  | .var _ => by simp [T.vars, T.size]
  | .sym _ => by simp [T.vars]
  | .num _ => by simp [T.vars]
  | .pair a b => by
    have := T.vars_size a
    have := T.vars_size b
    simp [T.vars, T.size]; omega
/-- A list of numbers that holds a term's variables, beside those of l. -/
def VarsOf (μ' : Mem) (l vs : List Int) (v : Value) : Prop := ∃ r : List Int, RepV μ' (.sl 1 (r.map D.i)) v ∧ (∀ x, x ∈ r ↔ x ∈ vs ∨ x ∈ l) ∧ r.length ≤ l.length + vs.length
theorem l02Vars_spec : ∀ (x : T) {μ : Mem} {l : List Int} {w v : Value}, RepV μ x.tm.d w → RepV μ (.sl 1 (l.map D.i)) v → l.length + x.vars.length ≤ 1000000000 → Spec Try.prog 76 [w, v] μ fun v μ' => VarsOf μ' l x.vars v :=
  T.ind fun x ih μ l w v hw hv hb => by
    obtain ⟨base, cap, rfl, hsl⟩ : ∃ base cap, w = .agg #[.int .i64 x.tm.kind, .int .i64 x.tm.num, .string x.tm.name, .slice base x.args.length cap] ∧ Sl μ 4 base x.args.length ((x.args.map T.tm).map Tm.d) := by
      have h1 := Tm.inv (k := x.tm.kind) (n := x.tm.num) (s := x.tm.name) (l := x.tm.args) (v := w) (by cases x <;> exact hw)
      rw [T.tm_args, List.length_map] at h1
      exact h1
    have hn := maxLen_le hsl.max
    refine Spec.mk Try.func76 (by kernel_rfl) ?_
    intro r
    refine ifd (fun h => ?_) (fun h => ?_)
    · have e : x.vars = [x.tm.num] := by cases x <;> simp_all [T.vars, T.tm, Tm.kind, Tm.num]
      refine call_plain (l02Insert_spec hv (by omega)) fun v' μ' hle hR => ret_plain ?_
      obtain ⟨r, h1, h2, h3⟩ := hR
      exact ⟨r, h1, by simpa [e] using h2, by simpa [e] using h3⟩
    have e := T.vars_args h
    refine loop_intro (fun p : Nat × Value × Mem => p.1 ≤ x.args.length ∧ μ.Le p.2.2 ∧ VarsOf p.2.2 l ((x.args.take p.1).flatMap T.vars) p.2.1)
      (fun (i, v, μ') => ⟨[(1, .val v), (15, .val (.slice base x.args.length cap)), (16, .val (.int .i64 x.args.length)), (17, .val (.int .i64 i))], [], 1, μ', Mem.nil⟩) (fun p => x.args.length - p.1)
      (0, v, μ) ⟨by simp, Mem.Le.refl μ, l, hv, by simp, by simp⟩ (fun (_, _, _) => ⟨rfl, rfl⟩) ⟨⟨rfl, rfl, rfl, rfl, trivial⟩, trivial, rfl, rfl⟩ ?_
    rintro ⟨i, v, μ'⟩ ⟨hi, hle, r, h1, h2, h3⟩
    dsimp only at hi hle h1 h2 h3
    have hpre : ((x.args.take i).flatMap T.vars).length ≤ x.vars.length := by
      rw [e]; exact flatMap_take_le _ _ _
    refine ifd (fun h => ?_) (fun h => ?_)
    · obtain ⟨t, ht⟩ := at_some (l := x.args) (i := i) (by omega)
      have ht' : (x.args.map T.tm)[i]? = some t.tm := by simp [ht]
      obtain ⟨ad, p, hel, hr⟩ := Tm.elem (hsl.mono hle) ht'
      have hsucc : (x.args.take (i + 1)).flatMap T.vars = (x.args.take i).flatMap T.vars ++ t.vars := by
        rw [List.take_add_one, ht, Option.toList_some, List.flatMap_append]; simp
      have hall : ((x.args.take (i + 1)).flatMap T.vars).length ≤ x.vars.length := by
        rw [e]; exact flatMap_take_le _ _ _
      rw [hsucc, List.length_append] at hall
      refine elem_intro hel ?_
      intro r2
      refine call_plain (ih t (mem_at ht) hr h1 (by omega)) fun v' μ'' hle2 hR => ?_
      obtain ⟨q, g1, g2, g3⟩ := hR
      refine num64 (by omega) (by omega) ⟨(i + 1, v', μ''), ⟨by dsimp only; omega, hle.trans hle2, q, g1, fun y => ?_, ?_⟩, by dsimp only; omega, ⟨⟨rfl, rfl, rfl, rfl, trivial⟩, trivial, rfl, rfl⟩⟩
      · dsimp only
        rw [g2, h2, hsucc, List.mem_append]
        constructor
        · rintro (h | h | h) <;> simp [h]
        · rintro ((h | h) | h) <;> simp [h]
      · dsimp only
        rw [hsucc, List.length_append]; omega
    · have hi' : i = x.args.length := by omega
      subst hi'
      rw [List.take_length, ← e] at h2 h3
      exact ret_plain ⟨r, h1, h2, h3⟩
theorem spec_IsGround_spec (x : T) {v : Value} (hv : RepV μ x.tm.d v) (hx : x.ok) (hw : x.tm.d.wd) : Gives Try.prog 48 [v] μ (.bool (decide (x.vars = []))) := by
  obtain ⟨p, rfl⟩ := Tm.invV hv
  have := T.vars_size x
  have := hx.2
  refine Spec.forget (Spec.mk Try.func48 (by kernel_rfl) ?_)
  intro r
  refine call_gives (spec_TermOk_spec x.tm hv hw) ?_
  refine ifd (fun _ => ?_) (fun h => absurd hx.tm h)
  refine call_plain (l02Vars_spec x (l := []) hv (Rep.nilSl 1) (by simp; omega)) fun v' μ' hle hR => ?_
  obtain ⟨r, h1, h2, h3⟩ := hR
  obtain ⟨b, c, rfl, _⟩ := Rep.sl h1
  refine ret_plain (isI ?_)
  rw [List.length_map]
  constructor
  · intro hh
    have : r = [] := List.eq_nil_of_length_eq_zero (by omega)
    subst this
    cases hx : x.vars with
    | nil => rfl
    | cons a l =>
      have := (h2 a).2 (.inl (by simp [hx]))
      simp at this
  · intro hh
    rw [hh] at h3
    simp at h3
    rw [h3]; rfl
end
end Go.Vx

/- Contracts: lists of bindings, and the reference's substitutions. -/
namespace Go.Vx
open Go.Proofs Classical
/-! ### Plain -/
noncomputable def Tm.toT (t : Tm) : T := if h : ∃ x : T, x.tm = t then h.choose else .nil
theorem T.toT_tm (x : T) : x.tm.toT = x := by
  have h : ∃ y : T, y.tm = x.tm := ⟨x, rfl⟩
  rw [Tm.toT, dif_pos h]
  exact T.tm_inj h.choose_spec
theorem Tm.Ok.toT {t : Tm} (h : t.Ok) : t.toT.ok ∧ t.toT.tm = t := by
  obtain ⟨x, h1, rfl⟩ := h.lift
  rw [T.toT_tm]; exact ⟨h1, rfl⟩
structure B where
  var : Int
  to : T
def B.bd (b : B) : Bd := ⟨b.var, b.to.tm⟩
noncomputable def Bd.b (b : Bd) : B := ⟨b.var, b.to.toT⟩
/-- Binding i of a list is fine. -/
def okAt (l : List Bd) (i : Nat) (b : Bd) : Prop := (0 ≤ b.var ∧ b.var ≤ 100000) ∧ b.to.Ok ∧ ∀ j c, j + 1 = i → l[j]? = some c → c.var < b.var
def valsOk (l : List Bd) : Prop := l.length ≤ 400 ∧ ∀ i b, l[i]? = some b → okAt l i b
theorem valsOk.lift {l : List Bd} (h : valsOk l) : (l.map Bd.b).map B.bd = l ∧ (∀ b ∈ l.map Bd.b, b.to.ok) := by
  have h2 : ∀ b ∈ l, b.to.Ok := fun b hb => by
    obtain ⟨i, hi⟩ := List.mem_iff_getElem?.1 hb
    exact (h.2 i b hi).2.1
  clear h
  induction l with
  | nil => simp
  | cons b l ih =>
    have h1 := (h2 b (by simp)).toT
    obtain ⟨i1, i2⟩ := ih fun b hb => h2 b (by simp [hb])
    refine ⟨?_, ?_⟩
    · simp only [List.map_cons, i1, List.cons.injEq, and_true, Bd.b, B.bd, h1.2]
    · intro c hc
      simp only [List.map_cons, List.mem_cons] at hc
      rcases hc with rfl | hc
      · exact h1.1
      · exact i2 c hc
def sub : List B → Int → Option T
  | [], _ => none
  | b :: r, n => if b.var = n then some b.to else sub r n
def T.subst (f : Int → Option T) : T → T
  | .var n => (f n).getD (.var n)
  | .pair a b => .pair (a.subst f) (b.subst f)
  | .nil => .nil
  | .sym s => .sym s
  | .num n => .num n
theorem drop_at {α : Type} {l : List α} {i : Nat} {a : α} (h : l[i]? = some a) : l.drop i = a :: l.drop (i + 1) := by
  obtain ⟨h1, h2⟩ := List.getElem?_eq_some_iff.1 h
  rw [List.drop_eq_getElem_cons h1, h2]
/-- A term and whether it is one. -/
def optV (P : T → Value → Prop) (o : Option T) (v : Value) : Prop := match o with
  | some y => ∃ tv, v = .tuple #[tv, .bool true] ∧ P y tv
  | none => v = .tuple #[.agg #[.int .i64 0, .int .i64 0, .string ⟨#[]⟩, .slice none 0 0], .bool false]
section
variable {μ : Mem}
theorem T.fits (x : T) : (upTo (x.size : Int) 5000 ≤ 5000) ↔ x.size ≤ 5000 := by unfold upTo; omega
/-- An element's term. -/
theorem Bd.toV {b : Bd} {p : Option Addr × Nat} (h : RepV μ b.d (.agg (b.cs p).toArray)) : RepV μ b.to.d (.agg (b.to.cs p).toArray) := by
  obtain ⟨q, e, hto⟩ := Bd.inv h
  have hq : q = p := by
    have h2 := congrArg (fun v => match v with | Value.agg a => a[4]? | _ => none) e
    simp [Bd.cs] at h2
    exact Prod.ext h2.1.symm h2.2.symm
  rw [← hq]; exact hto
/-! ### The reference's -/
theorem l02Pair_spec {a b : T} {va vb : Value} (ha : RepV μ a.tm.d va) (hb : RepV μ b.tm.d vb) : Spec Try.prog 94 [va, vb] μ fun v μ' => RepV μ' (T.pair a b).tm.d v := by
  obtain ⟨p, rfl⟩ := Tm.invV ha
  obtain ⟨q, rfl⟩ := Tm.invV hb
  refine Spec.mk Try.func94 (by kernel_rfl) ?_
  intro r1 r2 r3 r4
  refine ret_frz [3] fun μ' hle hno hrow => .inl ?_
  rw [T.tm, Tm.d_mk]
  exact ⟨_, rfl, RepS.int (RepS.int (RepS.str (RepS.last (Rows.sl hrow (.cons (ha.mono hle) (Tm.d_n _) (.cons (hb.mono hle) (Tm.d_n _) .nil)) (show 2 ≤ maxLen by decide)))))⟩
theorem l02Fits_spec (x : T) {v : Value} (hv : RepV μ x.tm.d v) : Gives Try.prog 83 [v] μ (.bool (decide (x.size ≤ 5000))) := by
  obtain ⟨p, rfl⟩ := Tm.invV hv
  refine Spec.mk Try.func83 (by kernel_rfl) ?_
  intro r
  refine call_gives (l02Count_spec x.tm hv (by decide) (by decide)) (ret_gives ?_ rfl)
  rw [T.cnt_tm]
  exact isI (T.fits x)
theorem l04Get_spec {bs : List B} {base : Option Addr} {cap : Nat} {n : Int} (hsl : Sl μ 5 base bs.length ((bs.map B.bd).map Bd.d)) :
    Spec Try.prog 88 [.slice base bs.length cap, .int .i64 n] μ fun v μ' => optV (fun y tv => RepV μ y.tm.d tv) (sub bs n) v ∧ μ' = μ := by
  have hn := maxLen_le hsl.max
  refine Spec.mk Try.func88 (by kernel_rfl) ?_
  intro r
  refine loop_intro (fun i : Nat => i ≤ bs.length ∧ sub bs n = sub (bs.drop i) n) (fun i => ⟨[(1, .val (.int .i64 n)), (4, .loc 0 r 0), (8, .val (.slice base bs.length cap)), (9, .val (.int .i64 bs.length)), (10, .val (.int .i64 i))], [(0, some (.cells r [.val (.int .i64 0), .val (.int .i64 0), .val (.string ⟨#[]⟩), .val (.slice none 0 0)] 50))], 1, μ, Mem.nil⟩) (fun i => bs.length - i)
    0 ⟨by omega, rfl⟩ (fun i => ⟨rfl, rfl⟩) ⟨⟨rfl, rfl, rfl, rfl, rfl, trivial⟩, ⟨rfl, trivial⟩, rfl, rfl⟩ ?_
  rintro i ⟨hi, he⟩
  refine ifd (fun h => ?_) (fun h => ?_)
  · obtain ⟨b, hb⟩ := at_some (l := bs) (i := i) (by omega)
    have hb' : (bs.map B.bd)[i]? = some b.bd := by simp [hb]
    obtain ⟨ad, p, hel, hr⟩ := Bd.elem hsl hb'
    have hto := Bd.toV hr
    rw [drop_at hb] at he
    refine elem_intro hel ?_
    intro r2
    refine ifd (fun h2 => ?_) (fun h2 => ?_)
    · have h2 : b.var = n := h2
      have e2 : sub bs n = some b.to := by rw [he, sub, if_pos h2]
      rw [e2]
      exact ret_plain ⟨⟨_, rfl, hto⟩, rfl⟩
    · have h2 : ¬ b.var = n := h2
      have e2 : sub bs n = sub (bs.drop (i + 1)) n := by rw [he, sub, if_neg h2]
      exact num64 (by omega) (by omega) ⟨i + 1, ⟨by omega, e2⟩, by omega, ⟨⟨rfl, rfl, rfl, rfl, rfl, trivial⟩, ⟨rfl, trivial⟩, rfl, rfl⟩⟩
  · obtain rfl : i = bs.length := by omega
    rw [List.drop_length] at he
    rw [he]
    exact ret_plain ⟨rfl, rfl⟩
theorem l04Put_spec {bs : List B} {base : Option Addr} {cap : Nat} : ∀ (x : T) {μ : Mem} {v : Value}, Sl μ 5 base bs.length ((bs.map B.bd).map Bd.d) → RepV μ x.tm.d v →
    Spec Try.prog 82 [.slice base bs.length cap, v] μ fun v μ' => RepV μ' (x.subst (sub bs)).tm.d v := by
  intro x
  induction x with
  | var n =>
    intro μ v hsl hv
    obtain ⟨p, rfl⟩ := Tm.invV hv
    refine Spec.mk Try.func82 (by kernel_rfl) ?_
    intro r1 r2
    refine ifd (fun _ => ?_) (fun h => absurd rfl h)
    refine call_plain (l04Get_spec hsl) fun v' μ' hle hR => ?_
    obtain ⟨hR, e2⟩ := hR
    obtain rfl := e2.symm
    have hR : optV (fun y tv => RepV μ y.tm.d tv) (sub bs n) v' := hR
    simp only [T.subst]
    cases hs : sub bs n with
    | some y =>
      rw [hs] at hR
      obtain ⟨tv, rfl, htv⟩ := hR
      obtain ⟨q, rfl⟩ := Tm.invV htv
      intro r3
      refine if_intro (fun _ => ret_plain htv) (fun h => nomatch h)
    | none =>
      rw [hs] at hR
      obtain rfl := hR
      intro r3
      refine if_intro (fun h => nomatch h) (fun _ => ?_)
      refine ifd (fun h => absurd h (by simp [T.tm, Tm.kind])) (fun _ => ?_)
      exact ret_plain hv
  | pair a b iha ihb =>
    intro μ v hsl hv
    obtain ⟨base', cap', rfl, hsa⟩ := Tm.inv hv
    obtain ⟨ad, ad', p, p', h1, h2, hra, hrb⟩ := T.parts hsa
    refine Spec.mk Try.func82 (by kernel_rfl) ?_
    intro r1 r2
    refine ifd (fun h => absurd h (by simp [T.tm, Tm.kind])) (fun _ => ?_)
    refine ifd (fun _ => ?_) (fun h => absurd rfl h)
    refine elem_intro h1 ?_
    refine elem_intro h2 ?_
    refine call_plain (iha hsl hra) fun v1 μ1 hle1 hR1 => ?_
    refine call_plain (ihb (hsl.mono hle1) (hrb.mono hle1)) fun v2 μ2 hle2 hR2 => ?_
    refine call_plain (l02Pair_spec (hR1.mono hle2) hR2) fun v3 μ3 hle3 hR3 => ?_
    obtain ⟨q, rfl⟩ := Tm.invV hR3
    exact ret_plain hR3
  | _ =>
    intro μ v hsl hv
    obtain ⟨p, rfl⟩ := Tm.invV hv
    refine Spec.mk Try.func82 (by kernel_rfl) ?_
    intro r1 r2
    refine ifd (fun h => absurd h (by simp [T.tm, Tm.kind])) (fun _ => ?_)
    refine ifd (fun h => absurd h (by simp [T.tm, Tm.kind])) (fun _ => ?_)
    exact ret_plain hv
theorem l04Apply_spec {bs : List B} {base : Option Addr} {cap : Nat} (x : T) {v : Value} (hsl : Sl μ 5 base bs.length ((bs.map B.bd).map Bd.d)) (hv : RepV μ x.tm.d v) :
    Spec Try.prog 54 [.slice base bs.length cap, v] μ fun v μ' => ∃ tv, v = .tuple #[tv, .bool (decide ((x.subst (sub bs)).size ≤ 5000))] ∧ RepV μ' (x.subst (sub bs)).tm.d tv := by
  obtain ⟨p, rfl⟩ := Tm.invV hv
  refine Spec.mk Try.func54 (by kernel_rfl) ?_
  intro r1 r2
  refine call_plain (l04Put_spec x hsl hv) fun v1 μ1 hle1 hR1 => ?_
  obtain ⟨q, rfl⟩ := Tm.invV hR1
  intro r3
  refine call_gives (l02Fits_spec _ hR1) ?_
  exact ret_plain ⟨_, rfl, hR1⟩
end
end Go.Vx

/- Contracts: which lists of bindings are fine; copies; the reference's Instantiate. -/
namespace Go.Vx
open Go.Proofs Classical
section
variable {μ : Mem}
theorem okAt_ext {l : List Bd} {i : Nat} (hall : ∀ j b, j < i → l[j]? = some b → okAt l j b) {b : Bd} (hb : l[i]? = some b) (h : okAt l i b) : ∀ j b, j < i + 1 → l[j]? = some b → okAt l j b := fun j c hj hc => by
  rcases Nat.lt_or_ge j i with h1 | h1
  · exact hall j c h1 hc
  · obtain rfl : j = i := by omega
    rw [hb] at hc; cases hc; exact h
theorem l04Values_spec {l : List Bd} {base : Option Addr} {cap : Nat} (hsl : Sl μ 5 base l.length (l.map Bd.d)) (hw : D.wds (l.map Bd.d)) : Gives Try.prog 81 [.slice base l.length cap] μ (.bool (decide (valsOk l))) := by
  have hn := maxLen_le hsl.max
  refine Spec.mk Try.func81 (by kernel_rfl) ?_
  refine loop_intro (fun i : Nat => i ≤ l.length ∧ ∀ j b, j < i → l[j]? = some b → okAt l j b) (fun i => ⟨[(0, .val (.slice base l.length cap)), (5, .val (.slice base l.length cap)), (6, .val (.int .i64 l.length)), (7, .val (.int .i64 i))], [], 0, μ, Mem.nil⟩) (fun i => l.length - i)
    0 ⟨by omega, fun j b hj => by omega⟩ (fun i => ⟨rfl, rfl⟩) ⟨⟨rfl, rfl, rfl, rfl, trivial⟩, trivial, rfl, rfl⟩ ?_
  rintro i ⟨hi, hall⟩
  refine ifd (fun h => ?_) (fun h => ?_)
  · obtain ⟨b, hb⟩ := at_some (l := l) (i := i) (by omega)
    obtain ⟨ad, p, hel, hr⟩ := Bd.elem hsl hb
    have hto := Bd.toV hr
    have hwt : b.to.d.wd := (D.wds_mem hw _ (mem_at (at_map (f := Bd.d) hb))).2.1
    have bad : ¬ okAt l i b → Value.bool false = .bool (decide (valsOk l)) := fun k => isF fun hv => k (hv.2 i b hb)
    refine elem_intro hel ?_
    intro r
    refine ifd (fun h0 => ?_) (fun h0 => ?_)
    · obtain ⟨c, hc⟩ := at_some (l := l) (i := i - 1) (by omega)
      obtain ⟨ad2, p2, hel2, _⟩ := Bd.elem hsl hc
      have hprev : okAt l i b → c.var < b.var := fun k => k.2.2 (i - 1) c (by omega) hc
      refine num_eq (x := ((i - 1 : Nat) : Int)) (by rw [wrap64 (by omega) (by omega)]; omega) ?_
      refine elem_intro hel2 ?_
      refine ifd (fun h1 => ret_gives (bad fun k => by have := hprev k; omega) rfl) (fun h1 => ?_)
      have hlt : ∀ j c', j + 1 = i → l[j]? = some c' → c'.var < b.var := fun j c' hj hc' => by
        have e : j = i - 1 := by omega
        rw [e, hc] at hc'
        cases hc'; omega
      refine call_gives (l01In_spec _ _ _ _) ?_
      refine ifnd (fun h2 => ret_gives (bad fun k => h2 k.1) rfl) (fun h2 => ?_)
      refine call_gives (spec_TermOk_spec b.to hto hwt) ?_
      refine ifnd (fun h3 => ret_gives (bad fun k => h3 k.2.1) rfl) (fun h3 => ?_)
      exact num64 (by omega) (by omega) ⟨i + 1, ⟨by omega, okAt_ext hall hb ⟨h2, h3, hlt⟩⟩, by omega, ⟨⟨rfl, rfl, rfl, rfl, trivial⟩, trivial, rfl, rfl⟩⟩
    · refine call_gives (l01In_spec _ _ _ _) ?_
      refine ifnd (fun h2 => ret_gives (bad fun k => h2 k.1) rfl) (fun h2 => ?_)
      refine call_gives (spec_TermOk_spec b.to hto hwt) ?_
      refine ifnd (fun h3 => ret_gives (bad fun k => h3 k.2.1) rfl) (fun h3 => ?_)
      exact num64 (by omega) (by omega) ⟨i + 1, ⟨by omega, okAt_ext hall hb ⟨h2, h3, fun j c' hj _ => by omega⟩⟩, by omega, ⟨⟨rfl, rfl, rfl, rfl, trivial⟩, trivial, rfl, rfl⟩⟩
  · obtain rfl : i = l.length := by omega
    refine ret_gives (isI ⟨fun hh => ⟨by omega, fun j b hb => hall j b (List.getElem?_eq_some_iff.1 hb).1 hb⟩, fun hh => by have := hh.1; omega⟩) rfl
theorem spec_ValuesOk_spec {l : List Bd} {base : Option Addr} {cap : Nat} (hsl : Sl μ 5 base l.length (l.map Bd.d)) (hw : D.wds (l.map Bd.d)) : Gives Try.prog 53 [.slice base l.length cap] μ (.bool (decide (valsOk l))) := by
  refine Spec.mk Try.func53 (by kernel_rfl) ?_
  exact call_gives (l04Values_spec hsl hw) (ret_gives rfl rfl)
theorem impl_ValuesOk_spec {l : List Bd} {base : Option Addr} {cap : Nat} (hsl : Sl μ 5 base l.length (l.map Bd.d)) : Gives Try.prog 58 [.slice base l.length cap] μ (.bool (decide (valsOk l))) := by
  have hn := maxLen_le hsl.max
  refine Spec.mk Try.func58 (by kernel_rfl) ?_
  refine ifd (fun h => ret_gives (isF fun k => by have := k.1; omega) rfl) (fun hlen => ?_)
  refine loop_intro (fun i : Nat => i ≤ l.length ∧ ∀ j b, j < i → l[j]? = some b → okAt l j b) (fun i => ⟨[(0, .val (.slice base l.length cap)), (8, .val (.slice base l.length cap)), (9, .val (.int .i64 l.length)), (10, .val (.int .i64 i))], [], 0, μ, Mem.nil⟩) (fun i => l.length - i)
    0 ⟨by omega, fun j b hj => by omega⟩ (fun i => ⟨rfl, rfl⟩) ⟨⟨rfl, rfl, rfl, rfl, trivial⟩, trivial, rfl, rfl⟩ ?_
  rintro i ⟨hi, hall⟩
  refine ifd (fun h => ?_) (fun h => ?_)
  · obtain ⟨b, hb⟩ := at_some (l := l) (i := i) (by omega)
    obtain ⟨ad, p, hel, hr⟩ := Bd.elem hsl hb
    have hto := Bd.toV hr
    have bad : ¬ okAt l i b → Value.bool false = .bool (decide (valsOk l)) := fun k => isF fun hv => k (hv.2 i b hb)
    refine elem_intro hel ?_
    intro r
    refine ifd (fun h1 => ret_gives (bad fun k => by have := k.1.1; omega) rfl) (fun h1 => ?_)
    refine ifd (fun h2 => ret_gives (bad fun k => by have := k.1.2; omega) rfl) (fun h2 => ?_)
    refine ifd (fun h0 => ?_) (fun h0 => ?_)
    · obtain ⟨c, hc⟩ := at_some (l := l) (i := i - 1) (by omega)
      obtain ⟨ad2, p2, hel2, _⟩ := Bd.elem hsl hc
      have hprev : okAt l i b → c.var < b.var := fun k => k.2.2 (i - 1) c (by omega) hc
      refine num_eq (x := ((i - 1 : Nat) : Int)) (by rw [wrap64 (by omega) (by omega)]; omega) ?_
      refine elem_intro hel2 ?_
      refine ifd (fun h1 => ret_gives (bad fun k => by have := hprev k; omega) rfl) (fun h3 => ?_)
      have hlt : ∀ j c', j + 1 = i → l[j]? = some c' → c'.var < b.var := fun j c' hj hc' => by
        have e : j = i - 1 := by omega
        rw [e, hc] at hc'
        cases hc'; omega
      refine call_gives (impl_TermOk_spec b.to hto) ?_
      refine ifnd (fun h3 => ret_gives (bad fun k => h3 k.2.1) rfl) (fun h4 => ?_)
      exact num64 (by omega) (by omega) ⟨i + 1, ⟨by omega, okAt_ext hall hb ⟨⟨by omega, by omega⟩, h4, hlt⟩⟩, by omega, ⟨⟨rfl, rfl, rfl, rfl, trivial⟩, trivial, rfl, rfl⟩⟩
    · refine call_gives (impl_TermOk_spec b.to hto) ?_
      refine ifnd (fun h3 => ret_gives (bad fun k => h3 k.2.1) rfl) (fun h4 => ?_)
      exact num64 (by omega) (by omega) ⟨i + 1, ⟨by omega, okAt_ext hall hb ⟨⟨by omega, by omega⟩, h4, fun j c' hj _ => by omega⟩⟩, by omega, ⟨⟨rfl, rfl, rfl, rfl, trivial⟩, trivial, rfl, rfl⟩⟩
  · obtain rfl : i = l.length := by omega
    exact ret_gives (isT ⟨by omega, fun j b hb => hall j b (List.getElem?_eq_some_iff.1 hb).1 hb⟩) rfl
end
end Go.Vx

/- Contracts: marks, and what holds them: texts, arcs, graphs. -/
namespace Go.Vx
open Go.Proofs Classical
section
variable {μ : Mem}
theorem wrap8 {n : Int} (h1 : 0 ≤ n) (h2 : n < 256) : IntKind.u8.wrap n = n := by
  have e : IntKind.u8.bits = 8 := rfl
  have e2 : IntKind.u8.signed = false := rfl
  simp only [IntKind.wrap, e, e2, Bool.false_and]
  simp only [show (2 : Int) ^ 8 = 256 from rfl]
  simp; omega
theorem bytes_app (a b : List UInt8) : (⟨a.toArray⟩ : ByteArray) ++ ⟨b.toArray⟩ = ⟨(a ++ b).toArray⟩ := by
  have : ((⟨a.toArray⟩ : ByteArray) ++ ⟨b.toArray⟩).data = (a ++ b).toArray := by
    rw [ByteArray.data_append]; simp
  cases h : (⟨a.toArray⟩ : ByteArray) ++ ⟨b.toArray⟩
  rw [h] at this
  simp only at this
  rw [this]
theorem markText_spec (k : Int) (hk : k ≤ 9223372036854775807) : Gives Try.prog 62 [.int .i64 k] μ (.string (mtext k)) := by
  refine Spec.mk Try.func62 (by kernel_rfl) ?_
  refine ifd (fun h => ret_gives ?_ rfl) (fun h => ?_)
  · rw [mtext, if_pos h]
  obtain ⟨n, rfl⟩ : ∃ n : Nat, k = n := ⟨k.toNat, by omega⟩
  refine loop_intro (fun p : Nat × List UInt8 => digits n = digits p.1 ++ p.2 ∧ p.1 * 2 ^ p.2.length ≤ n ∧ p.2.length ≤ 64) (fun p => ⟨[(0, .val (.int .i64 p.1)), (3, .val (.string ⟨p.2.toArray⟩))], [], 0, μ, Mem.nil⟩) (fun p => p.1)
    (n, []) ⟨by simp, by simp, by simp⟩ (fun i => ⟨rfl, rfl⟩) ⟨⟨rfl, rfl, trivial⟩, trivial, rfl, rfl⟩ ?_
  rintro ⟨m, l⟩ ⟨h1, h2, hlen0⟩
  simp only at h1 h2 hlen0
  refine ifd (fun h3 => ?_) (fun h3 => ?_)
  · have hm : m ≠ 0 := by omega
    have hmn : m ≤ n := Nat.le_trans (Nat.le_mul_of_pos_right _ (Nat.two_pow_pos _)) h2
    have hlen : l.length ≤ 63 := by
      rcases Nat.lt_or_ge 63 l.length with h | h
      · exfalso
        have h4 : 2 ^ 64 ≤ 2 ^ l.length := Nat.pow_le_pow_right (by omega) h
        have h5 : 1 * 2 ^ l.length ≤ m * 2 ^ l.length := Nat.mul_le_mul_right _ (by omega)
        omega
      · exact h
    refine need_intro (by omega) (num_eq (x := ((m % 10 : Nat) : Int)) (by rw [Int.tmod_eq_emod_of_nonneg (by omega)]; omega) ?_)
    refine num64 (by omega) (by omega) (num_eq (wrap8 (by omega) (by omega)) ?_)
    intro r
    have hb : (UInt8.ofNat (48 + m % 10)).toNat = 48 + m % 10 := by
      rw [UInt8.toNat_ofNat']; omega
    refine bytes_intro [UInt8.ofNat (48 + m % 10)] (by simp only [List.map_cons, List.map_nil, hb]; congr 2) ?_
    refine need_intro (by simp [ByteArray.size]; omega) ?_
    refine need_intro (by omega) (num_eq (x := ((m / 10 : Nat) : Int)) (by show IntKind.i64.wrap (Int.tdiv (m : Int) 10) = _; rw [Int.tdiv_eq_ediv_of_nonneg (by omega), wrap64 (by omega) (by omega)]; simp) ?_)
    refine ⟨(m / 10, UInt8.ofNat (48 + m % 10) :: l), ⟨?_, ?_, by simp only [List.length_cons]; omega⟩, by simp only; omega, ⟨⟨rfl, ?_, trivial⟩, trivial, rfl, rfl⟩⟩
    · simp only; rw [h1, digits_pos hm]; simp
    · simp only [List.length_cons, Nat.pow_succ]
      have : m / 10 * 2 ≤ m := by omega
      calc m / 10 * (2 ^ l.length * 2) = (m / 10 * 2) * 2 ^ l.length := by rw [Nat.mul_comm (2 ^ l.length) 2, ← Nat.mul_assoc]
        _ ≤ m * 2 ^ l.length := Nat.mul_le_mul_right _ this
        _ ≤ n := h2
    · simp only [look]
      rw [bytes_app]; rfl
  · have hm : m = 0 := by omega
    subst hm
    refine need_intro (by simp [ByteArray.size]; omega) ?_
    refine ret_gives ?_ rfl
    rw [mtext, if_neg (by omega)]
    have := bytes_app [109] l
    rw [this, Int.toNat_natCast, h1, digits_zero]; rfl
/-! ### Arcs -/
theorem Own.arc {a : Arc} {h : Mem} {cs : List Value} (k : Own a.d h cs) : cs = [.int .i64 a.src, .int .i64 a.dst, .bool a.strict] ∧ h = Mem.nil := by
  obtain ⟨c1, c2, h1, h2, rfl, p, ⟨rfl, rfl⟩, c3, c4, h3, h4, rfl, q, ⟨rfl, rfl⟩, c5, c6, h5, h6, rfl, t, ⟨rfl, rfl⟩, rfl, rfl⟩ := k
  refine ⟨rfl, ?_⟩
  have e1 := t.eq (Parts.nil_right _)
  subst e1
  have e2 := q.eq (Parts.nil_right _)
  subst e2
  exact p.eq (Parts.nil_right _)
theorem markArcS_spec {l : List Arc} {h : Mem} {v : Value} {k : Int} (ho : OwnV (.sl 3 (l.map Arc.d)) h v) (hk : 0 ≤ k) (hk2 : k + D.cnts (l.map Arc.d) ≤ 9223372036854775807) :
    SpecH Try.prog 45 [v, .int .i64 k] μ h fun r μ' h' => r = .int .i64 (D.mks (l.map Arc.d) k).2 ∧ μ' = μ ∧ OwnV (.sl 3 (D.mks (l.map Arc.d) k).1) h' v := by
  obtain ⟨base, cap, e, hm, hn, ho⟩ := ho
  simp only [List.cons.injEq, and_true] at e
  subst e
  have hm' : (l.map Arc.d).length ≤ 9223372036854775807 := Nat.le_trans hm.max (by decide)
  refine SpecH.mk [] Try.func45 (by kernel_rfl) ?_
  rcases ho with ⟨hnil, rfl⟩ | ⟨r, flat, rest, ty, h2, rfl, hr, rfl, ho⟩
  · rw [hnil]
    refine loop_intro (fun i : Nat => i = 0) (fun i => ⟨[(0, .val (.slice base 0 cap)), (1, .val (.int .i64 k)), (5, .val (.int .i64 i))], [], 0, μ, Mem.nil⟩) (fun i => 0 - i)
      0 rfl (fun i => ⟨rfl, rfl⟩) ⟨⟨rfl, rfl, rfl, trivial⟩, trivial, rfl, rfl⟩ ?_
    rintro i rfl
    refine ifd (fun h => by omega) (fun h => ret_plain ⟨rfl, rfl, base, cap, rfl, ⟨Nat.zero_le _, Nat.zero_le _⟩, by simp [D.mks], .inl ⟨rfl, rfl⟩⟩)
  · generalize hxs : l.map Arc.d = xs at *
    refine loop_intro (fun p : Nat × List Value × List Value => p.1 ≤ xs.length ∧ ∃ post hpre hpost, p.2.2 = post ++ rest ∧ Parts h2 hpre hpost ∧ OwnS (D.mks (xs.take p.1) k).1 hpre p.2.1 ∧ OwnS (xs.drop p.1) hpost post)
      (fun (i, pre, tail) => ⟨[(0, .val (.slice (some ⟨r, 0, none⟩) xs.length cap)), (1, .val (.int .i64 (D.mks (xs.take i) k).2)), (5, .val (.int .i64 i))], [], 0, μ, h2.set r (.cells (List.toArray (pre ++ tail)) ty (0, 0))⟩) (fun p => xs.length - p.1)
      (0, [], flat ++ rest) ⟨by simp, flat, Mem.nil, h2, rfl, Parts.nil_left _, ⟨rfl, rfl⟩, by simpa using ho⟩ (fun (_, _, _) => ⟨rfl, rfl⟩) ⟨⟨rfl, rfl, rfl, trivial⟩, trivial, rfl, rfl⟩ ?_
    rintro ⟨i, pre, tail⟩ ⟨hi, post, hpre, hpost, e, hp, o1, o2⟩
    dsimp only at hi e hp o1 o2
    have hge := D.mks_cnt (xs.take i) k
    refine ifd (fun h => ?_) (fun h => ?_)
    · obtain ⟨a, ha⟩ := at_some (l := l) (i := i) (by rw [← hxs] at h; simp at h; omega)
      have hx : xs[i]? = some a.d := by rw [← hxs]; simp [ha]
      have hdrop : xs.drop i = a.d :: xs.drop (i + 1) := by
        rw [List.drop_eq_getElem_cons (by omega)]
        congr 1
        exact (List.getElem?_eq_some_iff.1 hx).2
      rw [hdrop] at o2
      obtain ⟨c1, c2, g1, g2, rfl, q, u1, u2⟩ := o2
      obtain ⟨rfl, rfl⟩ := Own.arc u1
      have hg2 : hpost = g2 := q.eq (Parts.nil_left _)
      subst hg2
      have hlen : pre.length = i * 3 := by
        rw [o1.len, D.mks_n, D.ns_eq (es := 3) fun x hx => hn x (List.mem_of_mem_take hx), List.length_take, Nat.min_eq_left hi]
      have hcnt : (D.mks (xs.take i) k).2 + 3 ≤ k + D.cnts xs := by
        have h1 := D.cnts_take xs (i + 1)
        rw [D.mks_cnt]
        rw [List.take_add_one, hx, Option.toList_some, D.cnts_append] at h1
        simp only [D.cnts, Arc.d, D.cnt] at h1
        omega
      rw [List.append_assoc] at e
      subst e
      refine ptr_intro ⟨r, 0, none⟩ rfl (by omega) (by omega) ?_
      refine sto_at (j := 0) (by simp [Addr.add_lit', hlen]) (by simp) ?_
      refine num64 (by omega) (by omega) ?_
      refine ptr_intro ⟨r, 0, none⟩ rfl (by omega) (by omega) ?_
      refine sto_at (j := 1) (by simp [Addr.add_lit', hlen]) (by simp) ?_
      refine num64 (by omega) (by omega) ?_
      refine need_intro (by omega) (num_intro fun x hx0 => ?_)
      refine ptr_intro ⟨r, 0, none⟩ rfl (by omega) (by omega) ?_
      refine sto_at (j := 2) (by simp [Addr.add_lit', hlen]) (by simp) ?_
      refine num64 (by omega) (by omega) ?_
      refine num64 (by omega) (by omega) ?_
      have hmk := D.mks_take hx k
      refine ⟨(i + 1, pre ++ [.int .i64 (D.mks (xs.take i) k).2, .int .i64 ((D.mks (xs.take i) k).2 + 1), .bool (decide (x = 0))], c2 ++ rest), ⟨by dsimp only; omega, c2, hpre, hpost, rfl, hp, ?_, u2⟩, by dsimp only; omega, ⟨⟨rfl, ?_, rfl, trivial⟩, trivial, rfl, ?_⟩⟩
      · dsimp only
        rw [hmk]
        refine OwnS.append (Parts.nil_right _) o1 ?_
        subst hx0
        exact OwnS.last (OwnS.int (OwnS.int (OwnS.bool OwnS.nil)))
      · rw [hmk]
        show some (SV.val (.int .i64 _)) = some (SV.val (.int .i64 _))
        congr 3
      · simp
    · have hi' : i = xs.length := by omega
      subst hi'
      rw [List.drop_length] at o2
      obtain ⟨rfl, rfl⟩ := o2
      obtain rfl : rest = tail := e.symm
      obtain rfl := hp.eq (Parts.nil_right _)
      rw [List.take_length] at o1 hge
      refine ret_plain ⟨by rw [List.take_length], rfl, some ⟨r, 0, none⟩, cap, by rw [D.mks_length], by rw [D.mks_length]; exact hm, D.mks_size k hn, .inr ⟨r, pre, rest, ty, _, rfl, hr, rfl, o1⟩⟩
theorem heldArcS_spec {l : List Arc} {v : Value} {k : Int} (ho : RepV μ (.sl 3 (D.mks (l.map Arc.d) k).1) v) (hk : 0 ≤ k) (hk2 : k + D.cnts (l.map Arc.d) ≤ 9223372036854775807) :
    Gives Try.prog 46 [v, .int .i64 k] μ (.int .i64 (D.mks (l.map Arc.d) k).2) := by
  obtain ⟨base, cap, rfl, hsl⟩ := Rep.sl ho
  have hm' := Nat.le_trans hsl.max (show maxLen ≤ 9223372036854775807 by decide)
  rw [D.mks_length] at hm' hsl ⊢
  refine Spec.mk Try.func46 (by kernel_rfl) ?_
  generalize hxs : l.map Arc.d = xs at *
  refine loop_intro (fun i : Nat => i ≤ xs.length) (fun i => ⟨[(0, .val (.slice base xs.length cap)), (1, .val (.int .i64 (D.mks (xs.take i) k).2)), (5, .val (.int .i64 i))], [], 0, μ, Mem.nil⟩) (fun i => xs.length - i)
    0 (by simp) (fun i => ⟨rfl, rfl⟩) ⟨⟨rfl, rfl, rfl, trivial⟩, trivial, rfl, rfl⟩ ?_
  intro i hi
  have hge := D.mks_cnt (xs.take i) k
  refine ifd (fun h => ?_) (fun h => ?_)
  · obtain ⟨a, ha⟩ := at_some (l := l) (i := i) (by rw [← hxs] at h; simp at h; omega)
    have hx : xs[i]? = some a.d := by rw [← hxs]; simp [ha]
    have hcnt : (D.mks (xs.take i) k).2 + 3 ≤ k + D.cnts xs := by
      have h1 := D.cnts_take xs (i + 1)
      rw [D.mks_cnt]
      rw [List.take_add_one, hx, Option.toList_some, D.cnts_append] at h1
      simp only [D.cnts, Arc.d, D.cnt] at h1
      omega
    obtain ⟨ad, cs, hel, hcs⟩ := hsl.get i _ (D.mks_get hx k)
    simp only [Arc.d, D.mk, D.mks, Rep, RepS] at hcs
    obtain ⟨_, _, rfl, rfl, _, _, rfl, rfl, _, _, rfl, rfl, rfl⟩ := hcs
    have hmk := D.mks_take hx k
    repeat' (first
      | refine elem_intro hel ?_
      | refine ifnd (fun h => absurd rfl h) (fun _ => ?_)
      | refine need_intro (by omega) (num_eq rfl ?_)
      | refine if_intro (fun h => absurd h (by simp)) (fun _ => ?_)
      | refine num64 (by omega) (by omega) ?_)
    exact ⟨i + 1, by omega, by omega, ⟨⟨rfl, by rw [hmk]; show some (SV.val (.int .i64 _)) = some (SV.val (.int .i64 _)); congr 3, rfl, trivial⟩, trivial, rfl, rfl⟩⟩
  · have hi' : i = xs.length := by omega
    subst hi'
    rw [List.take_length]
    exact ret_gives rfl rfl
theorem markSizeGraph_spec {g : Graph} {h : Mem} {v : Value} {k : Int} (ho : OwnV g.d h v) (hk : 0 ≤ k) (hk2 : k + D.cnts (g.arcs.map Arc.d) ≤ 9223372036854775807) :
    SpecH Try.prog 16 [v, .int .i64 k] μ h fun r μ' h' => r = .int .i64 (D.mt g.d k).2 ∧ μ' = μ ∧ OwnV (D.mt g.d k).1 h' v := by
  obtain ⟨cs, rfl, c1, c2, h1, h2, rfl, p, ⟨rfl, rfl⟩, c3, c4, h3, h4, rfl, q, ⟨rfl, rfl⟩, c5, c6, h5, h6, rfl, t, k5, rfl, rfl⟩ := ho
  obtain rfl := p.eq (Parts.nil_left _)
  obtain rfl := q.eq (Parts.nil_left _)
  obtain rfl := t.eq (Parts.nil_right _)
  have hl := k5.len
  match c5, hl with
  | [v], _ =>
    obtain ⟨base, cap, rfl⟩ := Own.sl k5
    refine SpecH.mk [] Try.func16 (by kernel_rfl) ?_
    intro r
    refine call_own (markArcS_spec k5 hk hk2) fun v μ' h' hle hap hR => ?_
    obtain ⟨rfl, rfl, ho⟩ := hR
    exact ret_plain ⟨rfl, rfl, _, rfl, OwnS.str (OwnS.str (OwnS.last ho))⟩
theorem heldSizeGraph_spec {g : Graph} {v : Value} {k : Int} (ho : RepV μ (D.mt g.d k).1 v) (hk : 0 ≤ k) (hk2 : k + D.cnts (g.arcs.map Arc.d) ≤ 9223372036854775807) :
    Gives Try.prog 17 [v, .int .i64 k] μ (.int .i64 (D.mt g.d k).2) := by
  obtain ⟨cs, rfl, c1, c2, rfl, rfl, c3, c4, rfl, rfl, c5, c6, rfl, k5, rfl⟩ := ho
  have hl := Rep.len _ _ k5
  match c5, hl with
  | [v], _ =>
    have k5' := k5
    obtain ⟨base, cap, rfl, _⟩ := k5'.sl
    refine Spec.mk Try.func17 (by kernel_rfl) ?_
    intro r
    refine call_gives (heldArcS_spec k5 hk hk2) ?_
    have := D.mks_cnt (g.arcs.map Arc.d) k
    refine ifd (fun h => ?_) (fun h => ret_gives rfl rfl)
    omega
end
end Go.Vx

/- Contracts: marks on terms and bindings, and what holds them. -/
namespace Go.Vx
open Go.Proofs Classical
/-- A row of owned data in the midst of being marked: i elements are done; hh is what the elements own. -/
structure Marking (xs : List D) (k : Int) (rest : List Value) (r : Nat) (j : Nat) (pre tail : List Value) (hh : Mem) : Prop where
  le : j ≤ xs.length
  out : hh r = none
  parts : ∃ post hpre hpost, tail = post ++ rest ∧ Parts hh hpre hpost ∧ OwnS (D.mks (xs.take j) k).1 hpre pre ∧ OwnS (xs.drop j) hpost post
theorem Marking.start {xs : List D} {k : Int} {rest flat : List Value} {r : Nat} {h2 : Mem} (h : h2 r = none) (o : OwnS xs h2 flat) : Marking xs k rest r 0 [] (flat ++ rest) h2 :=
  ⟨by omega, h, flat, Mem.nil, h2, rfl, Parts.nil_left _, ⟨rfl, rfl⟩, by simpa using o⟩
theorem Marking.len {xs : List D} {k : Int} {rest : List Value} {r : Nat} {j es : Nat} {pre tail : List Value} {hh : Mem} (m : Marking xs k rest r j pre tail hh) (hn : ∀ x ∈ xs, x.n = es) : pre.length = j * es := by
  obtain ⟨post, hpre, hpost, rfl, hp, o1, o2⟩ := m.parts
  rw [o1.len, D.mks_n, D.ns_eq (es := es) fun x hx => hn x (List.mem_of_mem_take hx), List.length_take, Nat.min_eq_left m.le]
/-- The next element: what it owns (g), and the rest (m). -/
theorem Marking.next {xs : List D} {k : Int} {rest : List Value} {r : Nat} {j : Nat} {pre tail : List Value} {hh : Mem} (M : Marking xs k rest r j pre tail hh) {x : D} (hx : xs[j]? = some x) :
    ∃ c g m c2, tail = c ++ (c2 ++ rest) ∧ Own x g c ∧ Parts hh g m ∧ m r = none ∧
      (∀ g' c', Apart g' m → g' r = none → Own (x.mk (D.mks (xs.take j) k).2).1 g' c' → Marking xs k rest r (j + 1) (pre ++ c') (c2 ++ rest) (g'.join m)) := by
  obtain ⟨post, hpre, hpost, rfl, hp, o1, o2⟩ := M.parts
  have hlt : j < xs.length := (List.getElem?_eq_some_iff.1 hx).1
  have hdrop : xs.drop j = x :: xs.drop (j + 1) := by
    rw [List.drop_eq_getElem_cons hlt]
    congr 1
    exact (List.getElem?_eq_some_iff.1 hx).2
  rw [hdrop] at o2
  obtain ⟨c, c2, g, g2, rfl, q, u1, u2⟩ := o2
  obtain ⟨m, p1, p2⟩ := hp.assoc q.symm
  have hm : m r = none := by
    cases h : m r with
    | none => rfl
    | some o => have := p2.left r o h; rw [M.out] at this; cases this
  refine ⟨c, g, m, c2, by simp, u1, p2.symm, hm, fun g' c' ha hg ho => ⟨hlt, by rw [Mem.join_get, hg]; exact hm, c2, g'.join hpre, g2, rfl, ?_, ?_, u2⟩⟩
  · have a1 : Apart g' hpre := fun b hb => by
      cases h : hpre b with
      | none => rfl
      | some o => have := ha b hb; rw [p1.left b o h] at this; cases this
    obtain ⟨m2, q1, q2⟩ := (Parts.join ha).assoc p1
    have e := q1.is_join
    subst e
    exact q2
  · rw [D.mks_take hx]
    refine OwnS.append (Parts.symm ?_) o1 (OwnS.last ho)
    refine Parts.join fun b hb => ?_
    cases h : hpre b with
    | none => rfl
    | some o => have := ha b hb; rw [p1.left b o h] at this; cases this
theorem Marking.cnt {xs : List D} {k : Int} {j : Nat} {x : D} (hx : xs[j]? = some x) : (D.mks (xs.take j) k).2 + x.cnt ≤ k + D.cnts xs := by
  have h1 := D.cnts_take xs (j + 1)
  rw [D.mks_cnt]
  rw [List.take_add_one, hx, Option.toList_some, D.cnts_append] at h1
  simp only [D.cnts] at h1
  omega
theorem Marking.last {xs : List D} {k : Int} {rest : List Value} {r : Nat} {pre tail : List Value} {hh : Mem} (M : Marking xs k rest r xs.length pre tail hh) : tail = rest ∧ OwnS (D.mks xs k).1 hh pre := by
  obtain ⟨post, hpre, hpost, rfl, hp, o1, o2⟩ := M.parts
  rw [List.drop_length] at o2
  obtain ⟨rfl, rfl⟩ := o2
  obtain rfl := hp.eq (Parts.nil_right _)
  rw [List.take_length] at o1
  exact ⟨by simp, o1⟩
/-- What a framed call gives back of an element's memory. -/
theorem back_of {g' m H' : Mem} {r : Nat} {o : Obj} (hm : m r = none) (p : Parts H' g' (m.set r o)) : Apart g' m ∧ g' r = none ∧ H' = (g'.join m).set r o := by
  obtain ⟨a1, a2⟩ := Mem.set_apart hm p.apart.symm
  exact ⟨a1.symm, a2, p.eq ((Parts.join a1.symm).set (by rw [Mem.join_get, a2]; exact hm))⟩
theorem Tm.own {t : Tm} {h : Mem} {cs : List Value} (k : Own t.d h cs) : ∃ v, cs = [.int .i64 t.kind, .int .i64 t.num, .string t.name, v] ∧ OwnV (.sl 4 (t.args.map Tm.d)) h v := by
  cases t with
  | mk kd n s l =>
    rw [Tm.d_mk] at k
    obtain ⟨c1, c2, h1, h2, rfl, p, ⟨rfl, rfl⟩, c3, c4, h3, h4, rfl, q, ⟨rfl, rfl⟩, c5, c6, h5, h6, rfl, t, ⟨rfl, rfl⟩, c7, c8, h7, h8, rfl, u, k7, rfl, rfl⟩ := k
    obtain rfl := p.eq (Parts.nil_left _)
    obtain rfl := q.eq (Parts.nil_left _)
    obtain rfl := t.eq (Parts.nil_left _)
    obtain rfl := u.eq (Parts.nil_right _)
    have hl := k7.len
    match c7, hl with
    | [v], _ => exact ⟨v, by simp [Tm.kind, Tm.num, Tm.name], k7⟩
theorem Tm.d_eq (t : Tm) : t.d = .st [.i t.kind, .i t.num, .s t.name, .sl 4 (t.args.map Tm.d)] := by
  cases t; exact Tm.d_mk _ _ _ _
theorem Tm.mk_eq (t : Tm) (k : Int) : t.d.mk k = (.st [.i k, .i (k + 1), .s (mtext (k + 1 + 1)), .sl 4 (D.mks (t.args.map Tm.d) (k + 1 + 1 + 1)).1], (D.mks (t.args.map Tm.d) (k + 1 + 1 + 1)).2) := by
  rw [Tm.d_eq]; simp [D.mk, D.mks]
theorem Tm.cnt_eq (t : Tm) : t.d.cnt = 3 + D.cnts (t.args.map Tm.d) := by
  rw [Tm.d_eq]; simp [D.cnt, D.cnts]; omega
section
variable {μ : Mem}
theorem markTermS_of {l : List Tm} (he : ∀ t ∈ l, ∀ {h : Mem} {v : Value} {k : Int}, OwnV (.sl 4 (t.args.map Tm.d)) h v → 0 ≤ k → k + D.cnts (t.args.map Tm.d) ≤ 9223372036854775807 →
      SpecH Try.prog 61 [v, .int .i64 k] μ h fun r μ' h' => r = .int .i64 (D.mks (t.args.map Tm.d) k).2 ∧ μ' = μ ∧ OwnV (.sl 4 (D.mks (t.args.map Tm.d) k).1) h' v)
    {h : Mem} {v : Value} {k : Int} (ho : OwnV (.sl 4 (l.map Tm.d)) h v) (hk : 0 ≤ k) (hk2 : k + D.cnts (l.map Tm.d) ≤ 9223372036854775807) :
    SpecH Try.prog 61 [v, .int .i64 k] μ h fun r μ' h' => r = .int .i64 (D.mks (l.map Tm.d) k).2 ∧ μ' = μ ∧ OwnV (.sl 4 (D.mks (l.map Tm.d) k).1) h' v := by
  obtain ⟨base, cap, e, hm, hn, ho⟩ := ho
  simp only [List.cons.injEq, and_true] at e
  subst e
  have hm' : (l.map Tm.d).length ≤ 9223372036854775807 := Nat.le_trans hm.max (by decide)
  refine SpecH.mk [] Try.func61 (by kernel_rfl) ?_
  rcases ho with ⟨hnil, rfl⟩ | ⟨r, flat, rest, ty, h2, rfl, hr, rfl, ho⟩
  · rw [hnil]
    refine loop_intro (fun i : Nat => i = 0) (fun i => ⟨[(0, .val (.slice base 0 cap)), (1, .val (.int .i64 k)), (5, .val (.int .i64 i))], [], 0, μ, Mem.nil⟩) (fun i => 0 - i)
      0 rfl (fun i => ⟨rfl, rfl⟩) ⟨⟨rfl, rfl, rfl, trivial⟩, trivial, rfl, rfl⟩ ?_
    rintro i rfl
    refine ifd (fun h => by omega) (fun h => ret_plain ⟨rfl, rfl, base, cap, rfl, ⟨Nat.zero_le _, Nat.zero_le _⟩, by simp [D.mks], .inl ⟨rfl, rfl⟩⟩)
  · generalize hxs : l.map Tm.d = xs at *
    refine loop_intro (fun p : Nat × List Value × List Value × Mem => Marking xs k rest r p.1 p.2.1 p.2.2.1 p.2.2.2)
      (fun (i, pre, tail, hh) => ⟨[(0, .val (.slice (some ⟨r, 0, none⟩) xs.length cap)), (1, .val (.int .i64 (D.mks (xs.take i) k).2)), (5, .val (.int .i64 i))], [], 0, μ, hh.set r (.cells (List.toArray (pre ++ tail)) ty (0, 0))⟩) (fun p => xs.length - p.1)
      (0, [], flat ++ rest, h2) (Marking.start hr ho) (fun (_, _, _, _) => ⟨rfl, rfl⟩) ⟨⟨rfl, rfl, rfl, trivial⟩, trivial, rfl, rfl⟩ ?_
    rintro ⟨i, pre, tail, hh⟩ M
    dsimp only at M
    have hi := M.le
    have hge := D.mks_cnt (xs.take i) k
    refine ifd (fun h => ?_) (fun h => ?_)
    · obtain ⟨t, ht⟩ := at_some (l := l) (i := i) (by rw [← hxs] at h; simp at h; omega)
      have hx : xs[i]? = some t.d := by rw [← hxs]; simp [ht]
      obtain ⟨c, g, m, c2, rfl, hown, hp, hmr, back⟩ := M.next hx
      obtain ⟨v, rfl, hv⟩ := Tm.own hown
      obtain ⟨b2, cap2, rfl⟩ := OwnV.slice hv
      have hlen := M.len hn
      have hcnt := Marking.cnt (k := k) hx
      rw [Tm.cnt_eq] at hcnt
      refine ptr_intro ⟨r, 0, none⟩ rfl (by omega) (by omega) ?_
      refine sto_at (j := 0) (by simp [Addr.add_lit', hlen]) (by simp) ?_
      refine num64 (by omega) (by omega) ?_
      refine ptr_intro ⟨r, 0, none⟩ rfl (by omega) (by omega) ?_
      refine sto_at (j := 1) (by simp [Addr.add_lit', hlen]) (by simp) ?_
      refine num64 (by omega) (by omega) ?_
      refine call_gives (markText_spec _ (by omega)) ?_
      refine ptr_intro ⟨r, 0, none⟩ rfl (by omega) (by omega) ?_
      refine sto_at (j := 2) (by simp [Addr.add_lit', hlen]) (by simp) ?_
      refine num64 (by omega) (by omega) ?_
      refine ptr_intro ⟨r, 0, none⟩ rfl (by omega) (by omega) ?_
      refine own_at (j := 3) (by simp [Addr.add_lit', hlen]) rfl ?_
      refine call_own (SpecH.frame (hp.set M.out) (he t (mem_at ht) hv (by omega) (by omega))) fun v μ' H' hle hap hR => ?_
      obtain ⟨h', ⟨rfl, rfl, ho'⟩, hp'⟩ := hR
      obtain ⟨a1, a2, rfl⟩ := back_of hmr hp'
      have hmk := D.mks_take hx k
      have hmk2 := Tm.mk_eq t (D.mks (xs.take i) k).2
      refine num64 (by omega) (by omega) ⟨(i + 1, pre ++ [.int .i64 (D.mks (xs.take i) k).2, .int .i64 ((D.mks (xs.take i) k).2 + 1), .string (mtext ((D.mks (xs.take i) k).2 + 1 + 1)), .slice b2 (t.args.map Tm.d).length cap2], c2 ++ rest, h'.join m), back _ _ a1 a2 ?_, by dsimp only; omega, ⟨⟨rfl, ?_, rfl, trivial⟩, trivial, rfl, ?_⟩⟩
      · rw [hmk2]
        exact OwnS.int (OwnS.int (OwnS.str (OwnS.last ho')))
      · rw [hmk, hmk2]
        rfl
      · simp
    · have hi' : i = xs.length := by omega
      subst hi'
      obtain ⟨rfl, o1⟩ := M.last
      refine ret_plain ⟨by rw [List.take_length], rfl, some ⟨r, 0, none⟩, cap, by rw [D.mks_length], by rw [D.mks_length]; exact hm, D.mks_size k hn, .inr ⟨r, pre, tail, ty, hh, rfl, M.out, rfl, o1⟩⟩
theorem markTermS_spec {l : List Tm} {h : Mem} {v : Value} {k : Int} (ho : OwnV (.sl 4 (l.map Tm.d)) h v) (hk : 0 ≤ k) (hk2 : k + D.cnts (l.map Tm.d) ≤ 9223372036854775807) :
    SpecH Try.prog 61 [v, .int .i64 k] μ h fun r μ' h' => r = .int .i64 (D.mks (l.map Tm.d) k).2 ∧ μ' = μ ∧ OwnV (.sl 4 (D.mks (l.map Tm.d) k).1) h' v :=
  Tm.ind (p := fun t => ∀ {h : Mem} {v : Value} {k : Int}, OwnV (.sl 4 (t.args.map Tm.d)) h v → 0 ≤ k → k + D.cnts (t.args.map Tm.d) ≤ 9223372036854775807 →
      SpecH Try.prog 61 [v, .int .i64 k] μ h fun r μ' h' => r = .int .i64 (D.mks (t.args.map Tm.d) k).2 ∧ μ' = μ ∧ OwnV (.sl 4 (D.mks (t.args.map Tm.d) k).1) h' v)
    (fun _ _ _ _ ih _ _ _ => markTermS_of fun t ht _ _ _ => ih t ht) (.mk 0 0 ⟨#[]⟩ l) ho hk hk2
theorem heldTermS_of {l : List Tm} (he : ∀ t ∈ l, ∀ {v : Value} {k : Int}, RepV μ (.sl 4 (D.mks (t.args.map Tm.d) k).1) v → 0 ≤ k → k + D.cnts (t.args.map Tm.d) ≤ 9223372036854775807 →
      Gives Try.prog 63 [v, .int .i64 k] μ (.int .i64 (D.mks (t.args.map Tm.d) k).2))
    {v : Value} {k : Int} (ho : RepV μ (.sl 4 (D.mks (l.map Tm.d) k).1) v) (hk : 0 ≤ k) (hk2 : k + D.cnts (l.map Tm.d) ≤ 9223372036854775807) :
    Gives Try.prog 63 [v, .int .i64 k] μ (.int .i64 (D.mks (l.map Tm.d) k).2) := by
  obtain ⟨base, cap, rfl, hsl⟩ := Rep.sl ho
  have hm' := Nat.le_trans hsl.max (show maxLen ≤ 9223372036854775807 by decide)
  rw [D.mks_length] at hm' hsl ⊢
  refine Spec.mk Try.func63 (by kernel_rfl) ?_
  generalize hxs : l.map Tm.d = xs at *
  refine loop_intro (fun i : Nat => i ≤ xs.length) (fun i => ⟨[(0, .val (.slice base xs.length cap)), (1, .val (.int .i64 (D.mks (xs.take i) k).2)), (5, .val (.int .i64 i))], [], 0, μ, Mem.nil⟩) (fun i => xs.length - i)
    0 (by simp) (fun i => ⟨rfl, rfl⟩) ⟨⟨rfl, rfl, rfl, trivial⟩, trivial, rfl, rfl⟩ ?_
  intro i hi
  have hge := D.mks_cnt (xs.take i) k
  refine ifd (fun h => ?_) (fun h => ?_)
  · obtain ⟨t, ht⟩ := at_some (l := l) (i := i) (by rw [← hxs] at h; simp at h; omega)
    have hx : xs[i]? = some t.d := by rw [← hxs]; simp [ht]
    have hcnt := Marking.cnt (k := k) hx
    rw [Tm.cnt_eq] at hcnt
    obtain ⟨ad, cs, hel, hcs⟩ := hsl.get i _ (D.mks_get hx k)
    have hmk := D.mks_take hx k
    have hmk2 := Tm.mk_eq t (D.mks (xs.take i) k).2
    rw [hmk2] at hcs
    obtain ⟨_, _, rfl, rfl, _, _, rfl, rfl, _, _, rfl, rfl, c7, _, rfl, h7, rfl⟩ := hcs
    have hl := Rep.len _ _ h7
    match c7, hl with
    | [v], _ =>
      have h7' := h7
      obtain ⟨b2, cap2, rfl, _⟩ := h7'.sl
      have hge2 := D.mks_cnt (t.args.map Tm.d) ((D.mks (xs.take i) k).2 + 1 + 1 + 1)
      refine elem_intro hel (ifnd (fun h => absurd rfl h) fun _ => ?_)
      refine num64 (by omega) (by omega) ?_
      refine elem_intro hel (ifnd (fun h => absurd rfl h) fun _ => ?_)
      refine num64 (by omega) (by omega) ?_
      refine elem_intro hel ?_
      refine call_gives (markText_spec _ (by omega)) ?_
      refine ifnd (fun h => absurd rfl h) fun _ => ?_
      refine num64 (by omega) (by omega) ?_
      refine elem_intro hel ?_
      refine call_gives (he t (mem_at ht) h7 (by omega) (by omega)) ?_
      refine ifd (fun h => absurd h (by omega)) (fun _ => ?_)
      refine num64 (by omega) (by omega) ?_
      exact ⟨i + 1, by omega, by omega, ⟨⟨rfl, by rw [hmk, hmk2]; rfl, rfl, trivial⟩, trivial, rfl, rfl⟩⟩
  · have hi' : i = xs.length := by omega
    subst hi'
    rw [List.take_length]
    exact ret_gives rfl rfl
theorem heldTermS_spec {l : List Tm} {v : Value} {k : Int} (ho : RepV μ (.sl 4 (D.mks (l.map Tm.d) k).1) v) (hk : 0 ≤ k) (hk2 : k + D.cnts (l.map Tm.d) ≤ 9223372036854775807) :
    Gives Try.prog 63 [v, .int .i64 k] μ (.int .i64 (D.mks (l.map Tm.d) k).2) :=
  Tm.ind (p := fun t => ∀ {v : Value} {k : Int}, RepV μ (.sl 4 (D.mks (t.args.map Tm.d) k).1) v → 0 ≤ k → k + D.cnts (t.args.map Tm.d) ≤ 9223372036854775807 →
      Gives Try.prog 63 [v, .int .i64 k] μ (.int .i64 (D.mks (t.args.map Tm.d) k).2))
    (fun _ _ _ _ ih _ _ => heldTermS_of fun t ht _ _ => ih t ht) (.mk 0 0 ⟨#[]⟩ l) ho hk hk2
theorem Tm.mt_eq (t : Tm) (k : Int) : t.d.mt k = (.st [.i t.kind, .i t.num, .s t.name, .sl 4 (D.mks (t.args.map Tm.d) k).1], (D.mks (t.args.map Tm.d) k).2) := by
  rw [Tm.d_eq]; simp [D.mt, D.mts]
theorem markTerm_spec (t : Tm) {h : Mem} {v : Value} {k : Int} (ho : OwnV t.d h v) (hk : 0 ≤ k) (hk2 : k + D.cnts (t.args.map Tm.d) ≤ 9223372036854775807) :
    SpecH Try.prog 31 [v, .int .i64 k] μ h fun r μ' h' => r = .int .i64 (t.d.mt k).2 ∧ μ' = μ ∧ OwnV (t.d.mt k).1 h' v := by
  have ho2 : ∃ cs, v = .agg (List.toArray cs) ∧ Own t.d h cs := by rw [Tm.d_eq] at ho ⊢; exact ho
  obtain ⟨cs, rfl, ho2⟩ := ho2
  obtain ⟨v, rfl, hv⟩ := Tm.own ho2
  obtain ⟨b2, cap2, rfl⟩ := OwnV.slice hv
  refine SpecH.mk [] Try.func31 (by kernel_rfl) ?_
  intro r
  refine call_own (markTermS_spec hv hk hk2) fun v μ' h' hle hap hR => ?_
  obtain ⟨rfl, rfl, ho⟩ := hR
  rw [Tm.mt_eq]
  exact ret_plain ⟨rfl, rfl, _, rfl, OwnS.int (OwnS.int (OwnS.str (OwnS.last ho)))⟩
theorem heldTerm_spec (t : Tm) {v : Value} {k : Int} (ho : RepV μ (t.d.mt k).1 v) (hk : 0 ≤ k) (hk2 : k + D.cnts (t.args.map Tm.d) ≤ 9223372036854775807) :
    Gives Try.prog 33 [v, .int .i64 k] μ (.int .i64 (t.d.mt k).2) := by
  rw [Tm.mt_eq] at ho ⊢
  obtain ⟨_, rfl, _, _, rfl, rfl, _, _, rfl, rfl, _, _, rfl, rfl, c7, _, rfl, h7, rfl⟩ := ho
  have hl := Rep.len _ _ h7
  match c7, hl with
  | [v], _ =>
    have h7' := h7
    obtain ⟨b2, cap2, rfl, _⟩ := h7'.sl
    refine Spec.mk Try.func33 (by kernel_rfl) ?_
    intro r
    refine call_gives (heldTermS_spec h7 hk hk2) ?_
    have := D.mks_cnt (t.args.map Tm.d) k
    refine ifd (fun h => ?_) (fun h => ret_gives rfl rfl)
    omega
/-! ### Bindings -/
theorem Bd.own {b : Bd} {h : Mem} {cs : List Value} (k : Own b.d h cs) : ∃ v, cs = [.int .i64 b.var, .int .i64 b.to.kind, .int .i64 b.to.num, .string b.to.name, v] ∧ OwnV (.sl 4 (b.to.args.map Tm.d)) h v := by
  obtain ⟨c1, c2, h1, h2, rfl, p, ⟨rfl, rfl⟩, c3, c4, h3, h4, rfl, q, k3, rfl, rfl⟩ := k
  obtain rfl := p.eq (Parts.nil_left _)
  obtain rfl := q.eq (Parts.nil_right _)
  obtain ⟨v, rfl, hv⟩ := Tm.own k3
  exact ⟨v, by simp, hv⟩
theorem Bd.mk_eq (b : Bd) (k : Int) : b.d.mk k = (.st [.i k, .st [.i (k + 1), .i (k + 1 + 1), .s (mtext (k + 1 + 1 + 1)), .sl 4 (D.mks (b.to.args.map Tm.d) (k + 1 + 1 + 1 + 1)).1]], (D.mks (b.to.args.map Tm.d) (k + 1 + 1 + 1 + 1)).2) := by
  simp only [Bd.d, D.mk, D.mks, Tm.mk_eq]
theorem Bd.cnt_eq (b : Bd) : b.d.cnt = 4 + D.cnts (b.to.args.map Tm.d) := by
  simp only [Bd.d, D.cnt, D.cnts, Tm.cnt_eq]; omega
theorem markBindingS_spec {l : List Bd} {h : Mem} {v : Value} {k : Int} (ho : OwnV (.sl 5 (l.map Bd.d)) h v) (hk : 0 ≤ k) (hk2 : k + D.cnts (l.map Bd.d) ≤ 9223372036854775807) :
    SpecH Try.prog 32 [v, .int .i64 k] μ h fun r μ' h' => r = .int .i64 (D.mks (l.map Bd.d) k).2 ∧ μ' = μ ∧ OwnV (.sl 5 (D.mks (l.map Bd.d) k).1) h' v := by
  obtain ⟨base, cap, e, hm, hn, ho⟩ := ho
  simp only [List.cons.injEq, and_true] at e
  subst e
  have hm' : (l.map Bd.d).length ≤ 9223372036854775807 := Nat.le_trans hm.max (by decide)
  refine SpecH.mk [] Try.func32 (by kernel_rfl) ?_
  rcases ho with ⟨hnil, rfl⟩ | ⟨r, flat, rest, ty, h2, rfl, hr, rfl, ho⟩
  · rw [hnil]
    refine loop_intro (fun i : Nat => i = 0) (fun i => ⟨[(0, .val (.slice base 0 cap)), (1, .val (.int .i64 k)), (5, .val (.int .i64 i))], [], 0, μ, Mem.nil⟩) (fun i => 0 - i)
      0 rfl (fun i => ⟨rfl, rfl⟩) ⟨⟨rfl, rfl, rfl, trivial⟩, trivial, rfl, rfl⟩ ?_
    rintro i rfl
    refine ifd (fun h => by omega) (fun h => ret_plain ⟨rfl, rfl, base, cap, rfl, ⟨Nat.zero_le _, Nat.zero_le _⟩, by simp [D.mks], .inl ⟨rfl, rfl⟩⟩)
  · generalize hxs : l.map Bd.d = xs at *
    refine loop_intro (fun p : Nat × List Value × List Value × Mem => Marking xs k rest r p.1 p.2.1 p.2.2.1 p.2.2.2)
      (fun (i, pre, tail, hh) => ⟨[(0, .val (.slice (some ⟨r, 0, none⟩) xs.length cap)), (1, .val (.int .i64 (D.mks (xs.take i) k).2)), (5, .val (.int .i64 i))], [], 0, μ, hh.set r (.cells (List.toArray (pre ++ tail)) ty (0, 0))⟩) (fun p => xs.length - p.1)
      (0, [], flat ++ rest, h2) (Marking.start hr ho) (fun (_, _, _, _) => ⟨rfl, rfl⟩) ⟨⟨rfl, rfl, rfl, trivial⟩, trivial, rfl, rfl⟩ ?_
    rintro ⟨i, pre, tail, hh⟩ M
    dsimp only at M
    have hi := M.le
    have hge := D.mks_cnt (xs.take i) k
    refine ifd (fun h => ?_) (fun h => ?_)
    · obtain ⟨t, ht⟩ := at_some (l := l) (i := i) (by rw [← hxs] at h; simp at h; omega)
      have hx : xs[i]? = some t.d := by rw [← hxs]; simp [ht]
      obtain ⟨c, g, m, c2, rfl, hown, hp, hmr, back⟩ := M.next hx
      obtain ⟨v, rfl, hv⟩ := Bd.own hown
      obtain ⟨b2, cap2, rfl⟩ := OwnV.slice hv
      have hlen := M.len hn
      have hcnt := Marking.cnt (k := k) hx
      rw [Bd.cnt_eq] at hcnt
      refine ptr_intro ⟨r, 0, none⟩ rfl (by omega) (by omega) ?_
      refine sto_at (j := 0) (by simp [Addr.add_lit', hlen]) (by simp) ?_
      refine num64 (by omega) (by omega) ?_
      refine ptr_intro ⟨r, 0, none⟩ rfl (by omega) (by omega) ?_
      refine sto_at (j := 1) (by simp [Addr.add_lit', hlen]) (by simp) ?_
      refine num64 (by omega) (by omega) ?_
      refine ptr_intro ⟨r, 0, none⟩ rfl (by omega) (by omega) ?_
      refine sto_at (j := 2) (by simp [Addr.add_lit', hlen]) (by simp) ?_
      refine num64 (by omega) (by omega) ?_
      refine call_gives (markText_spec _ (by omega)) ?_
      refine ptr_intro ⟨r, 0, none⟩ rfl (by omega) (by omega) ?_
      refine sto_at (j := 3) (by simp [Addr.add_lit', hlen]) (by simp) ?_
      refine num64 (by omega) (by omega) ?_
      refine ptr_intro ⟨r, 0, none⟩ rfl (by omega) (by omega) ?_
      refine own_at (j := 4) (by simp [Addr.add_lit', hlen]) rfl ?_
      refine call_own (SpecH.frame (hp.set M.out) (markTermS_spec hv (by omega) (by omega))) fun v μ' H' hle hap hR => ?_
      obtain ⟨h', ⟨rfl, rfl, ho'⟩, hp'⟩ := hR
      obtain ⟨a1, a2, rfl⟩ := back_of hmr hp'
      have hmk := D.mks_take hx k
      have hmk2 := Bd.mk_eq t (D.mks (xs.take i) k).2
      refine num64 (by omega) (by omega) ⟨(i + 1, pre ++ [.int .i64 (D.mks (xs.take i) k).2, .int .i64 ((D.mks (xs.take i) k).2 + 1), .int .i64 ((D.mks (xs.take i) k).2 + 1 + 1), .string (mtext ((D.mks (xs.take i) k).2 + 1 + 1 + 1)), .slice b2 (t.to.args.map Tm.d).length cap2], c2 ++ rest, h'.join m), back _ _ a1 a2 ?_, by dsimp only; omega, ⟨⟨rfl, ?_, rfl, trivial⟩, trivial, rfl, ?_⟩⟩
      · rw [hmk2]
        exact OwnS.int (OwnS.last (OwnS.int (OwnS.int (OwnS.str (OwnS.last ho')))))
      · rw [hmk, hmk2]
        rfl
      · simp
    · have hi' : i = xs.length := by omega
      subst hi'
      obtain ⟨rfl, o1⟩ := M.last
      refine ret_plain ⟨by rw [List.take_length], rfl, some ⟨r, 0, none⟩, cap, by rw [D.mks_length], by rw [D.mks_length]; exact hm, D.mks_size k hn, .inr ⟨r, pre, tail, ty, hh, rfl, M.out, rfl, o1⟩⟩
end
end Go.Vx

/- Contracts: copies; the reference's Instantiate. -/
namespace Go.Vx
open Go.Proofs Classical
theorem T.d_eq (x : T) : x.tm.d = .st [.i x.tm.kind, .i x.tm.num, .s x.tm.name, .sl 4 ((x.args.map T.tm).map Tm.d)] := by
  rw [Tm.d_eq, T.tm_args]
theorem T.inv {μ : Mem} {x : T} {w : Value} (hw : RepV μ x.tm.d w) : ∃ base cap, w = .agg #[.int .i64 x.tm.kind, .int .i64 x.tm.num, .string x.tm.name, .slice base x.args.length cap] ∧ Sl μ 4 base x.args.length ((x.args.map T.tm).map Tm.d) := by
  have h1 := Tm.inv (k := x.tm.kind) (n := x.tm.num) (s := x.tm.name) (l := x.tm.args) (v := w) (by cases x <;> exact hw)
  rw [T.tm_args, List.length_map] at h1
  exact h1
theorem T.args_le (x : T) : x.args.length ≤ 2 := by cases x <;> simp [T.args]
theorem l02Copy_spec : ∀ (x : T) {μ : Mem} {v : Value}, RepV μ x.tm.d v → Spec Try.prog 55 [v] μ fun v μ' => RepV μ' x.tm.d v :=
  T.ind fun x ih μ v hv => by
    obtain ⟨base, cap, rfl, hsl⟩ := T.inv hv
    have hn := T.args_le x
    refine Spec.mk Try.func55 (by kernel_rfl) ?_
    intro r1 r2 r3
    refine loop_nil (fun p : Nat × Option Nat × Nat × List Value × Mem => p.1 ≤ x.args.length ∧ μ.Le p.2.2.2.2 ∧ Rows p.2.2.2.2 4 (((x.args.take p.1).map T.tm).map Tm.d) p.2.2.2.1)
      (fun (i, b, c, ys, μ') => ⟨[(2, .loc 1 r2 0), (3, .loc 2 r3 0), (14, .val (.slice base x.args.length cap)), (15, .val (.int .i64 x.args.length)), (16, .val (.int .i64 i))],
        [(1, some (.cells r2 [.val (.int .i64 0), .val (.int .i64 0), .val (.string ⟨#[]⟩), .val (.slice none 0 0)] 50)), (2, some (.cells r3 [.val (.int .i64 x.tm.kind), .val (.int .i64 x.tm.num), .val (.string x.tm.name), .row 3 b ys.length c] 50)), (3, some (.row b c 50 4 ys))], 4, μ', Mem.nil⟩) (fun p => x.args.length - p.1)
      (0, none, 0, [], μ) ⟨by simp, Mem.Le.refl μ, .nil⟩ (fun (_, _, _, _, _) => ⟨rfl, rfl⟩) ⟨⟨⟨_, rfl, .inl rfl⟩, ⟨_, rfl, .inl rfl⟩, ⟨_, rfl, .inl rfl⟩, ⟨_, rfl, .inl rfl⟩, ⟨_, rfl, .inl rfl⟩, trivial⟩, ⟨.inl rfl, .inr (.inr ⟨_, _, _, _, rfl, rfl, .inl rfl, .inl rfl, .inl rfl, .inr ⟨3, rfl, rfl, Nat.le_refl _⟩, trivial⟩), .inr (.inl ⟨_, _, rfl, Nat.le_refl _⟩), trivial⟩, rfl, rfl⟩ ?_
    rintro ⟨i, b, c, ys, μ'⟩ ⟨hi, hle, hrows⟩
    dsimp only at hi hle hrows
    have hlen := hrows.len
    simp only [List.length_map, List.length_take] at hlen
    refine ifd (fun h => ?_) (fun h => ?_)
    · obtain ⟨t, ht⟩ := at_some (l := x.args) (i := i) (by omega)
      have ht' : (x.args.map T.tm)[i]? = some t.tm := by simp [ht]
      obtain ⟨ad, p, hel, hr⟩ := Tm.elem (hsl.mono hle) ht'
      refine elem_intro hel ?_
      intro r4
      refine call_plain (ih t (mem_at ht) hr) fun v' μ'' hle2 hR => ?_
      obtain ⟨q, rfl⟩ := Tm.invV hR
      intro r5
      refine grow_intro ?_ ?_ fun b' c' _ => ?_
      · show (ys.length + 1) * 56 ≤ _; omega
      · show ys.length + 1 ≤ 9223372036854775807; omega
      have hsucc : ((x.args.take (i + 1)).map T.tm).map Tm.d = ((x.args.take i).map T.tm).map Tm.d ++ [t.tm.d] := by
        rw [List.take_add_one, ht, Option.toList_some]; simp
      exact num64 (by omega) (by omega) ⟨(i + 1, b', c', _, μ''), ⟨by dsimp only; omega, hle.trans hle2, by rw [hsucc]; exact (hrows.mono hle2).append (Rows.one hR (Tm.d_n _))⟩, by dsimp only; omega, ⟨⟨rfl, rfl, rfl, rfl, rfl, trivial⟩, ⟨rfl, rfl, rfl, trivial⟩, rfl, rfl⟩⟩
    · obtain rfl : i = x.args.length := by omega
      rw [List.take_length] at hrows
      refine ret_frz [3] fun μ2 hle2 hno hrow => .inl ?_
      rw [T.d_eq]
      exact ⟨_, rfl, RepS.int (RepS.int (RepS.str (RepS.last (Rows.sl hrow (hrows.mono hle2) (Nat.le_trans (m := 10) (by omega) (by decide))))))⟩
section
variable {μ : Mem}
/-- What 'Instantiate' gives. -/
noncomputable def inst (t : Tm) (l : List Bd) : Option T := if t.Ok ∧ valsOk l ∧ (t.toT.subst (sub (l.map Bd.b))).size ≤ 5000 then some (t.toT.subst (sub (l.map Bd.b))) else none
theorem spec_Instantiate_spec {t : Tm} {l : List Bd} {v : Value} {base : Option Addr} {cap : Nat} (hv : RepV μ t.d v) (hw : t.d.wd) (hsl : Sl μ 5 base l.length (l.map Bd.d)) (hwl : D.wds (l.map Bd.d)) :
    Spec Try.prog 25 [v, .slice base l.length cap] μ fun v μ' => optV (fun y tv => RepV μ' y.tm.d tv) (inst t l) v := by
  obtain ⟨p, rfl⟩ := Tm.invV hv
  refine Spec.mk Try.func25 (by kernel_rfl) ?_
  intro r1 r2
  refine call_gives (spec_TermOk_spec t hv hw) ?_
  refine ifnd (fun h => ret_plain (by rw [inst, if_neg fun k => h k.1]; rfl)) (fun h1 => ?_)
  refine call_gives (spec_ValuesOk_spec hsl hwl) ?_
  refine ifnd (fun h => ret_plain (by rw [inst, if_neg fun k => h k.2.1]; rfl)) (fun h2 => ?_)
  have e1 := h1.toT.2
  have e2 := h2.lift.1
  have hv' : RepV μ t.toT.tm.d (.agg #[.int .i64 t.kind, .int .i64 t.num, .string t.name, .slice p.1 t.args.length p.2]) := by rw [e1]; exact hv
  have hsl' : Sl μ 5 base (l.map Bd.b).length (((l.map Bd.b).map B.bd).map Bd.d) := by rw [e2, List.length_map]; exact hsl
  have hcall := l04Apply_spec (cap := cap) t.toT hsl' hv'
  rw [List.length_map] at hcall
  refine call_plain hcall fun v1 μ1 hle1 hR => ?_
  obtain ⟨tv, rfl, hR⟩ := hR
  obtain ⟨q, rfl⟩ := Tm.invV hR
  intro r3
  refine ifnd (fun h => ret_plain (by rw [inst, if_neg fun k => h k.2.2]; rfl)) (fun h3 => ?_)
  refine call_plain (l02Copy_spec _ hR) fun v2 μ2 hle2 hR2 => ?_
  obtain ⟨q2, rfl⟩ := Tm.invV hR2
  refine ret_plain ?_
  rw [inst, if_pos ⟨h1, h2, h3⟩]
  exact ⟨_, rfl, hR2⟩
end
end Go.Vx

/- Contracts: the program's substitutions: pairs, copies, mapped variables. -/
namespace Go.Vx
open Go.Proofs Classical
section
variable {μ : Mem}
theorem T.leaf_own {x : T} {v : Value} (h : x.args = []) (hv : RepV μ x.tm.d v) : OwnV x.tm.d Mem.nil v := by
  obtain ⟨base, cap, rfl, _⟩ := T.inv hv
  rw [T.d_eq, h]
  rw [T.d_eq, h] at hv
  obtain ⟨cs, e, h1⟩ := hv
  obtain ⟨_, _, rfl, rfl, _, _, rfl, rfl, _, _, rfl, rfl, _, _, rfl, h7, rfl⟩ := h1
  obtain ⟨b, c, rfl, hl, _, _⟩ := h7
  exact ⟨_, e, OwnS.int (OwnS.int (OwnS.str (OwnS.last ⟨b, c, rfl, hl, by simp, .inl ⟨rfl, rfl⟩⟩)))⟩
theorem T.leaf_fresh {x : T} {v : Value} {μ' : Mem} (h : x.args = []) (hv : RepV μ x.tm.d v) : Fresh μ μ' x.tm.d v := ⟨Mem.nil, T.leaf_own h hv, (fun _ _ h => nomatch h), fun _ h => absurd rfl h⟩
/-- Two data of one's own make a row of one's own. -/
theorem two_fresh {μ1 μ2 : Mem} {a b : D} {va vb : Value} (na : a.n = 4) (nb : b.n = 4) (h1 : μ.Le μ1) (h2 : μ1.Le μ2) (ha : Fresh μ μ1 a va) (hb : Fresh μ1 μ2 b vb) : ∃ g, OwnRows 4 [a, b] [va, vb] g ∧ g.Le μ2 ∧ ∀ x, g x ≠ none → μ x = none := by
  obtain ⟨ga, a1, a2, a3⟩ := ha
  obtain ⟨gb, b1, b2, b3⟩ := hb
  have hap := fresh_apart a2 b3
  have k1 := (OwnRows.nil 4).snoc a1 na (Apart.nil_left _)
  have k2 := k1.snoc b1 nb (fun x hx => hap x (by
    rcases join_ne hx with h | h
    · exact absurd rfl h
    · exact h))
  refine ⟨_, k2, join_le (join_le (fun _ _ h => nomatch h) (a2.trans h2)) b2, fun x hx => ?_⟩
  rcases join_ne hx with h | h
  · rcases join_ne h with h | h
    · exact absurd rfl h
    · exact a3 x h
  · cases h0 : μ x with
    | none => rfl
    | some o => have := b3 x h; rw [h1 x o h0] at this; cases this
theorem pair_spec {a b : T} {va vb : Value} {μ0 g : Mem} (ha : RepV μ a.tm.d va) (hb : RepV μ b.tm.d vb) (hg : OwnRows 4 [a.tm.d, b.tm.d] [va, vb] g) (h1 : g.Le μ) (h2 : ∀ x, g x ≠ none → μ0 x = none) (h3 : μ0.Le μ) :
    Spec Try.prog 103 [va, vb] μ fun v μ' => Fresh μ0 μ' (T.pair a b).tm.d v := by
  obtain ⟨p, rfl⟩ := Tm.invV ha
  obtain ⟨q, rfl⟩ := Tm.invV hb
  refine Spec.mk Try.func103 (by kernel_rfl) ?_
  intro r1 r2 r3 r4
  refine ret_frz [3] fun μ' hle hno hrow => .inl ?_
  have hf := Fresh.ofRow hg h1 h2 h3 hle hno hrow (show 2 ≤ maxLen by decide)
  obtain ⟨gg, k1, k2, k3⟩ := hf
  rw [T.d_eq]
  exact ⟨gg, ⟨_, rfl, OwnS.int (OwnS.int (OwnS.str (OwnS.last k1)))⟩, k2, k3⟩
theorem copyTerm_spec : ∀ (x : T) {μ : Mem} {v : Value}, RepV μ x.tm.d v → Spec Try.prog 102 [v] μ fun v μ' => Fresh μ μ' x.tm.d v := by
  intro x
  induction x with
  | pair a b iha ihb =>
    intro μ v hv
    obtain ⟨base', cap', rfl, hsa⟩ := Tm.inv hv
    obtain ⟨ad, ad', p, p', h1, h2, hra, hrb⟩ := T.parts hsa
    refine Spec.mk Try.func102 (by kernel_rfl) ?_
    intro r1 r2
    refine ifnd (fun h => absurd rfl h) (fun _ => ?_)
    refine elem_intro h1 ?_
    refine elem_intro h2 ?_
    refine call_plain (iha hra) fun v1 μ1 hle1 hR1 => ?_
    refine call_plain (ihb (hrb.mono hle1)) fun v2 μ2 hle2 hR2 => ?_
    obtain ⟨g, k1, k2, k3⟩ := two_fresh (Tm.d_n _) (Tm.d_n _) hle1 hle2 hR1 hR2
    obtain ⟨q1, rfl⟩ := Tm.invV hR1.rep
    obtain ⟨q2, rfl⟩ := Tm.invV hR2.rep
    intro r3
    refine ret_frz [2] fun μ' hle hno hrow => .inl ?_
    obtain ⟨gg, g1, g2, g3⟩ := Fresh.ofRow k1 k2 k3 (hle1.trans hle2) hle hno hrow (show 2 ≤ maxLen by decide)
    rw [T.d_eq]
    exact ⟨gg, ⟨_, rfl, OwnS.int (OwnS.int (OwnS.str (OwnS.last g1)))⟩, g2, g3⟩
  | _ =>
    intro μ v hv
    obtain ⟨base', cap', rfl, hsa⟩ := Tm.inv hv
    refine Spec.mk Try.func102 (by kernel_rfl) ?_
    intro r1 r2
    refine ifnd (fun _ => ?_) (fun h => absurd h (by simp))
    refine ret_plain ?_
    rw [T.d_eq]
    exact ⟨Mem.nil, ⟨_, rfl, OwnS.int (OwnS.int (OwnS.str (OwnS.last (Own.nilSl 4))))⟩, (fun _ _ h => nomatch h), fun _ h => absurd rfl h⟩
/-- A closure that looks variables up. -/
def Looks (k : FuncId) (caps : List Value) (μ : Mem) (f : Int → Option T) : Prop :=
  ∀ μ', μ.Le μ' → ∀ n, Spec Try.prog k (.int .i64 n :: caps) μ' fun v μ'' => optV (fun y tv => RepV μ'' y.tm.d tv) (f n) v
theorem mapVars_spec {k : FuncId} {caps : List Value} {f : Int → Option T} : ∀ (x : T) {μ : Mem} {v : Value}, Looks k caps μ f → RepV μ x.tm.d v →
    Spec Try.prog 97 [v, .func (.func k) #[] caps.toArray] μ fun v μ' => Fresh μ μ' (x.subst f).tm.d v := by
  intro x
  induction x with
  | var n =>
    intro μ v hk hv
    obtain ⟨p, rfl⟩ := Tm.invV hv
    refine Spec.mk Try.func97 (by kernel_rfl) ?_
    intro r1 r2
    refine ifd (fun _ => ?_) (fun h => absurd rfl h)
    refine call_plain (hk μ (Mem.Le.refl μ) n) fun v' μ' hle hR => ?_
    simp only [T.subst]
    cases hs : f n with
    | some y =>
      rw [hs] at hR
      obtain ⟨tv, rfl, htv⟩ := hR
      obtain ⟨q, rfl⟩ := Tm.invV htv
      intro r3
      refine if_intro (fun _ => ?_) (fun h => nomatch h)
      refine call_plain (copyTerm_spec y htv) fun v2 μ2 hle2 hR2 => ?_
      obtain ⟨q2, rfl⟩ := Tm.invV hR2.rep
      exact ret_plain (hR2.mono hle (Mem.Le.refl _))
    | none =>
      rw [hs] at hR
      obtain rfl := hR
      intro r3
      refine if_intro (fun h => nomatch h) (fun _ => ?_)
      exact ret_plain (T.leaf_fresh rfl hv)
  | pair a b iha ihb =>
    intro μ v hk hv
    obtain ⟨base', cap', rfl, hsa⟩ := Tm.inv hv
    obtain ⟨ad, ad', p, p', h1, h2, hra, hrb⟩ := T.parts hsa
    refine Spec.mk Try.func97 (by kernel_rfl) ?_
    intro r1 r2
    refine ifd (fun h => absurd h (by simp)) (fun _ => ?_)
    refine ifd (fun _ => ?_) (fun h => absurd rfl h)
    refine elem_intro h1 ?_
    refine elem_intro h2 ?_
    refine call_plain (iha hk hra) fun v1 μ1 hle1 hR1 => ?_
    refine call_plain (ihb (fun μ' h => hk μ' (hle1.trans h)) (hrb.mono hle1)) fun v2 μ2 hle2 hR2 => ?_
    obtain ⟨g, k1, k2, k3⟩ := two_fresh (Tm.d_n _) (Tm.d_n _) hle1 hle2 hR1 hR2
    refine call_plain (pair_spec (hR1.rep.mono hle2) hR2.rep k1 k2 k3 (hle1.trans hle2)) fun v3 μ3 hle3 hR3 => ?_
    obtain ⟨q, rfl⟩ := Tm.invV hR3.rep
    exact ret_plain hR3
  | _ =>
    intro μ v hk hv
    obtain ⟨p, rfl⟩ := Tm.invV hv
    refine Spec.mk Try.func97 (by kernel_rfl) ?_
    intro r1 r2
    refine ifd (fun h => absurd h (by simp [T.tm, Tm.kind])) (fun _ => ?_)
    refine ifd (fun h => absurd h (by simp [T.tm, Tm.kind])) (fun _ => ?_)
    exact ret_plain (T.leaf_fresh rfl hv)
end
end Go.Vx

/- Contracts: the program's substitutions: sizes, searches, values put in. -/
namespace Go.Vx
open Go.Proofs Classical
section
variable {μ : Mem}
/-- A closure that counts what a variable stands for. -/
def Counts (k : FuncId) (caps : List Value) (μ : Mem) (c : Int → Nat) : Prop := ∀ n, Gives Try.prog k (.int .i64 n :: caps) μ (.int .i64 (c n))
def cntOf (f : Int → Option T) (n : Int) : Nat := match f n with | some y => y.size | none => 1
theorem subst_var_size (f : Int → Option T) (n : Int) : ((T.var n).subst f).size = cntOf f n := by
  simp only [T.subst, cntOf]
  cases f n <;> rfl
theorem sizeWith_spec {k : FuncId} {caps : List Value} {f : Int → Option T} (hk : Counts k caps μ (cntOf f)) (hf : ∀ n, cntOf f n ≤ 5000) : ∀ (x : T) {v : Value}, RepV μ x.tm.d v →
    Gives Try.prog 95 [v, .func (.func k) #[] caps.toArray] μ (.int .i64 (min (x.subst f).size 5001 : Nat)) := by
  intro x
  induction x with
  | var n =>
    intro v hv
    obtain ⟨p, rfl⟩ := Tm.invV hv
    have := hf n
    refine Spec.mk Try.func95 (by kernel_rfl) ?_
    intro r1
    refine ifd (fun _ => ?_) (fun h => absurd rfl h)
    refine call_gives (hk n) (ret_gives ?_ rfl)
    rw [subst_var_size]
    congr 1
    show (if (5001 : Int) < (cntOf f n : Int) then (5001 : Int) else (cntOf f n : Int)) = _
    rw [if_neg (by omega)]
    omega
  | pair a b iha ihb =>
    intro v hv
    obtain ⟨base', cap', rfl, hsa⟩ := Tm.inv hv
    obtain ⟨ad, ad', p, p', h1, h2, hra, hrb⟩ := T.parts hsa
    have hs : ((T.pair a b).subst f).size = 1 + (a.subst f).size + (b.subst f).size := rfl
    refine Spec.mk Try.func95 (by kernel_rfl) ?_
    intro r1
    refine ifd (fun h => absurd h (by simp)) (fun _ => ?_)
    refine ifd (fun _ => ?_) (fun h => absurd rfl h)
    refine elem_intro h1 ?_
    refine call_gives (iha hra) ?_
    refine ifd (fun h => ret_gives ?_ rfl) (fun h => ?_)
    · rw [hs]; congr 1; omega
    · refine num64 (by omega) (by omega) ?_
      refine elem_intro h2 ?_
      refine call_gives (ihb hrb) ?_
      refine num64 (by omega) (by omega) (ret_gives ?_ rfl)
      rw [hs]
      congr 1
      split <;> omega
  | _ =>
    intro v hv
    obtain ⟨p, rfl⟩ := Tm.invV hv
    refine Spec.mk Try.func95 (by kernel_rfl) ?_
    intro r1
    refine ifd (fun h => absurd h (by simp [T.tm, Tm.kind])) (fun _ => ?_)
    refine ifd (fun h => absurd h (by simp [T.tm, Tm.kind])) (fun _ => ?_)
    exact ret_gives rfl rfl
theorem wrapu64 {n : Int} (h1 : 0 ≤ n) (h2 : n < 18446744073709551616) : IntKind.u64.wrap n = n := by
  have e : IntKind.u64.bits = 64 := rfl
  have e2 : IntKind.u64.signed = false := rfl
  simp only [IntKind.wrap, e, e2, Bool.false_and]
  simp only [show (2 : Int) ^ 64 = 18446744073709551616 from rfl]
  simp; omega
theorem Search_spec {k : FuncId} {caps : List Value} {p : Int → Prop} {n : Nat} (hn : n ≤ 1000000000) (hk : ∀ i : Nat, i < n → Gives Try.prog k (.int .i64 i :: caps) μ (.bool (decide (p i)))) :
    Spec Try.prog 98 [.int .i64 n, .func (.func k) #[] caps.toArray] μ fun v μ' => (∃ i : Nat, v = .int .i64 i ∧ i ≤ n ∧ (i < n → p i) ∧ ∀ j : Nat, j + 1 = i → ¬ p j) ∧ μ' = μ := by
  refine Spec.mk Try.func98 (by kernel_rfl) ?_
  refine loop_intro (fun q : Nat × Nat => q.1 ≤ q.2 ∧ q.2 ≤ n ∧ (q.2 < n → p q.2) ∧ ∀ j : Nat, j + 1 = q.1 → ¬ p j) (fun (i, j) => ⟨[(1, .val (.func (.func k) #[] caps.toArray)), (5, .val (.int .i64 i)), (6, .val (.int .i64 j))], [], 0, μ, Mem.nil⟩) (fun q => q.2 - q.1)
    (0, n) ⟨by simp, by simp, by simp, fun j hj => by simp at hj⟩ (fun (_, _) => ⟨rfl, rfl⟩) ⟨⟨rfl, rfl, rfl, trivial⟩, trivial, rfl, rfl⟩ ?_
  rintro ⟨i, j⟩ ⟨h1, h2, h3, h4⟩
  dsimp only at h1 h2 h3 h4
  refine ifd (fun h => ?_) (fun h => ?_)
  · refine num64 (by omega) (by omega) ?_
    refine num_eq (wrapu64 (by omega) (by omega)) ?_
    refine need_intro (by omega) ?_
    refine num_eq (x := (((i + j) / 2 : Nat) : Int)) ?_ ?_
    · show Int.fdiv ((i : Int) + j) (2 ^ (min (Int.toNat 1) 64)) = _
      rw [show min (Int.toNat 1) 64 = 1 from rfl, show (2 : Int) ^ 1 = 2 from rfl, Int.fdiv_eq_ediv_of_nonneg _ (by omega)]
      omega
    refine num64 (by omega) (by omega) ?_
    refine call_gives (hk ((i + j) / 2) (by omega)) ?_
    refine ifnd (fun hp => ?_) (fun hp => ?_)
    · refine num64 (by omega) (by omega) ⟨((i + j) / 2 + 1, j), ⟨by dsimp only; omega, h2, h3, fun m hm => ?_⟩, by dsimp only; omega, ⟨⟨rfl, rfl, rfl, trivial⟩, trivial, rfl, rfl⟩⟩
      dsimp only at hm
      obtain rfl : m = (i + j) / 2 := by omega
      exact hp
    · exact ⟨(i, (i + j) / 2), ⟨by dsimp only; omega, by dsimp only; omega, fun _ => hp, h4⟩, by dsimp only; omega, ⟨⟨rfl, rfl, rfl, trivial⟩, trivial, rfl, rfl⟩⟩
  · obtain rfl : i = j := by omega
    exact ret_plain ⟨⟨i, rfl, h2, h3, h4⟩, rfl⟩
end
end Go.Vx

/- Contracts: the program's search for a binding. -/
namespace Go.Vx
open Go.Proofs Classical
/-- Variables in order. -/
def Srt (bs : List B) : Prop := ∀ (i j : Nat) b c, i < j → bs[i]? = some b → bs[j]? = some c → b.var < c.var
theorem box_at {μ : Mem} {r : Nat} {x : Value} {ty : TypeId} (h : μ r = some (.cells #[x] ty (0, 0))) : ∀ j v, [x][j]? = some v → μ.cell ((⟨r, 0, none⟩ : Addr).add j) = some v := fun j v hj => by
  match j, hj with
  | 0, hj => cases hj; simp [Mem.cell, Addr.add_lit', h]
section
variable {μ : Mem}
theorem B.elem {bs : List B} {base : Option Addr} {n : Nat} (h : Sl μ 5 base n ((bs.map B.bd).map Bd.d)) {i : Nat} {b : B} (hb : bs[i]? = some b) : ∃ ad, ∃ p : Option Addr × Nat, ElemAt μ base n 5 i ad (b.bd.cs p) ∧ RepV μ b.to.tm.d (.agg (b.to.tm.cs p).toArray) := by
  have hb' : (bs.map B.bd)[i]? = some b.bd := by simp [hb]
  obtain ⟨ad, p, h1, h2⟩ := Bd.elem h hb'
  exact ⟨ad, p, h1, Bd.toV h2⟩
def atLeast (bs : List B) (n : Int) (z : Int) : Prop := ∃ b, bs[z.toNat]? = some b ∧ n ≤ b.var
theorem find1_spec {bs : List B} {base : Option Addr} {cap : Nat} {n : Int} {r1 r2 : Nat} {t1 t2 : TypeId} (hsl : Sl μ 5 base bs.length ((bs.map B.bd).map Bd.d)) (h1 : μ r1 = some (.cells #[.slice base bs.length cap] t1 (0, 0))) (h2 : μ r2 = some (.cells #[.int .i64 n] t2 (0, 0))) {i : Nat} (hi : i < bs.length) :
    Gives Try.prog 99 [.int .i64 i, .pointer (some ⟨r1, 0, none⟩), .pointer (some ⟨r2, 0, none⟩)] μ (.bool (decide (atLeast bs n i))) := by
  obtain ⟨b, hb⟩ := at_some hi
  obtain ⟨ad, p, hel, _⟩ := B.elem hsl hb
  refine Spec.mk Try.func99 (by kernel_rfl) ?_
  refine ext_intro [.slice base bs.length cap] rfl (box_at h1) ?_
  refine elem_intro hel ?_
  refine ext_intro [.int .i64 n] rfl (box_at h2) ?_
  refine ret_gives (isI ?_) rfl
  constructor
  · intro h; exact ⟨b, hb, h⟩
  · rintro ⟨c, hc, h⟩
    have hc : bs[i]? = some c := hc
    rw [hb] at hc; cases hc; exact h
/-- Where a variable is bound. -/
def FindR (bs : List B) (n : Int) (v : Value) : Prop := (∃ (i : Nat) (b : B), v = .int .i64 i ∧ bs[i]? = some b ∧ b.var = n) ∨ (v = .int .i64 (-1) ∧ ∀ b ∈ bs, b.var ≠ n)
theorem find_spec {bs : List B} {base : Option Addr} {cap : Nat} {n : Int} (hs : Srt bs) (hlen : bs.length ≤ 1000000000) (hsl : Sl μ 5 base bs.length ((bs.map B.bd).map Bd.d)) :
    Spec Try.prog 87 [.slice base bs.length cap, .int .i64 n] μ fun v μ' => FindR bs n v ∧ μ' = μ := by
  refine Spec.forget (Spec.mk Try.func87 (by kernel_rfl) ?_)
  intro r1 r2
  refine call_frz [0, 1] ?_
  intro μ1 hle1 hno1 hat1 μ2 hle2 hno2 hat2
  have hsl2 := (hsl.mono hle1).mono hle2
  have e1 : μ2 r1 = some (.cells #[.slice base bs.length cap] 54 (0, 0)) := hle2 _ _ hat1
  refine call_go (Search_spec (p := atLeast bs n) hlen fun i hi => find1_spec hsl2 e1 hat2 hi) fun v μ3 hle3 hR => ?_
  obtain ⟨⟨i, rfl, g1, g2, g3⟩, rfl⟩ := hR
  have low : ∀ (j : Nat) b, j < i → bs[j]? = some b → b.var < n := fun j b hj hb => by
    obtain ⟨c, hc⟩ := at_some (l := bs) (i := i - 1) (by omega)
    have h4 : c.var < n := by
      rcases Int.lt_or_le c.var n with h | h
      · exact h
      · exact absurd ⟨c, hc, h⟩ (g3 (i - 1) (by omega))
    rcases Nat.lt_or_ge j (i - 1) with h | h
    · have := hs j (i - 1) b c h hb hc; omega
    · obtain rfl : j = i - 1 := by omega
      rw [hb] at hc; cases hc; exact h4
  have none : (∀ b, bs[i]? = some b → b.var ≠ n) → FindR bs n (.int .i64 (-1)) := fun h => .inr ⟨rfl, fun b hb => by
    obtain ⟨j, hj⟩ := List.mem_iff_getElem?.1 hb
    rcases Nat.lt_or_ge j i with h1 | h1
    · have := low j b h1 hj; omega
    · have hjl := (List.getElem?_eq_some_iff.1 hj).1
      obtain ⟨c, hc⟩ := at_some (l := bs) (i := i) (by omega)
      obtain ⟨c', hc', h2⟩ := g2 (by omega)
      have hc' : bs[i]? = some c' := hc'
      rw [hc] at hc'; cases hc'
      have := h c hc
      rcases Nat.eq_or_lt_of_le h1 with h3 | h3
      · subst h3; rw [hj] at hc; cases hc; omega
      · have := hs i j c b h3 hc hj; omega⟩
  refine ext_intro [.slice base bs.length cap] rfl (box_at e1) ?_
  refine ifd (fun h => ?_) (fun h => ?_)
  · obtain ⟨b, hb⟩ := at_some (l := bs) (i := i) (by omega)
    obtain ⟨ad, p, hel, _⟩ := B.elem hsl2 hb
    refine ext_intro [.slice base bs.length cap] rfl (box_at e1) ?_
    refine elem_intro hel ?_
    refine ext_intro [.int .i64 n] rfl (box_at hat2) ?_
    refine ifd (fun h2 => ?_) (fun h2 => ?_)
    · exact ret_plain (.inl ⟨i, b, rfl, hb, h2⟩)
    · exact ret_plain (none fun c hc => by rw [hb] at hc; cases hc; exact h2)
  · exact ret_plain (none fun c hc => absurd (List.getElem?_eq_some_iff.1 hc).1 (by omega))
end
end Go.Vx

/- Contracts: the program's put and Instantiate. -/
namespace Go.Vx
open Go.Proofs Classical
theorem Srt.tail {b : B} {bs : List B} (h : Srt (b :: bs)) : Srt bs := fun i j c d hij hc hd => h (i + 1) (j + 1) c d (by omega) (by simpa using hc) (by simpa using hd)
theorem sub_some : ∀ {bs : List B} (_ : Srt bs) {i : Nat} {b : B} {n : Int}, bs[i]? = some b → b.var = n → sub bs n = some b.to
  | [], _, i, b, n, h, _ => by simp at h
  | c :: bs, hs, 0, b, n, h, e => by
    simp only [List.getElem?_cons_zero, Option.some.injEq] at h
    subst h
    rw [sub, if_pos e]
  | c :: bs, hs, i + 1, b, n, h, e => by
    have := hs 0 (i + 1) c b (by omega) rfl h
    rw [sub, if_neg (by omega)]
    exact sub_some hs.tail (by simpa using h) e
theorem sub_none : ∀ {bs : List B} {n : Int}, (∀ b ∈ bs, b.var ≠ n) → sub bs n = none
  | [], _, _ => rfl
  | c :: bs, n, h => by
    rw [sub, if_neg (h c (by simp))]
    exact sub_none fun b hb => h b (by simp [hb])
theorem sub_ok : ∀ {bs : List B} (_ : ∀ b ∈ bs, b.to.ok) {n : Int} {y : T}, sub bs n = some y → y.ok
  | [], _, n, y, h => by simp [sub] at h
  | c :: bs, hk, n, y, h => by
    rw [sub] at h
    split at h
    · cases h; exact hk c (by simp)
    · exact sub_ok (fun b hb => hk b (by simp [hb])) h
theorem valsOk.srt {l : List Bd} (h : valsOk l) : Srt (l.map Bd.b) := by
  intro i j b c hij hb hc
  simp only [List.getElem?_map, Option.map_eq_some_iff] at hb hc
  obtain ⟨b, hb, rfl⟩ := hb
  obtain ⟨c, hc, rfl⟩ := hc
  show b.var < c.var
  induction j generalizing c with
  | zero => omega
  | succ j ih =>
    have hj : j < l.length := by have := (List.getElem?_eq_some_iff.1 hc).1; omega
    obtain ⟨d, hd⟩ := at_some hj
    have h1 := (h.2 (j + 1) c hc).2.2 j d rfl hd
    rcases Nat.lt_or_ge i j with h2 | h2
    · have := ih h2 d hd; omega
    · obtain rfl : i = j := by omega
      rw [hb] at hd; cases hd; exact h1
section
variable {μ : Mem}
theorem put1_looks {bs : List B} {base : Option Addr} {cap : Nat} {r : Nat} {ty : TypeId} (hs : Srt bs) (hlen : bs.length ≤ 1000000000) (hsl : Sl μ 5 base bs.length ((bs.map B.bd).map Bd.d)) (h : μ r = some (.cells #[.slice base bs.length cap] ty (0, 0))) :
    Looks 86 [.pointer (some ⟨r, 0, none⟩)] μ (sub bs) := fun μ' hle n => by
  have hsl := hsl.mono hle
  have h : μ' r = _ := hle _ _ h
  refine Spec.mk Try.func86 (by kernel_rfl) ?_
  intro r1
  refine ext_intro [.slice base bs.length cap] rfl (box_at h) ?_
  refine call_plain (find_spec hs hlen hsl) fun v μ2 hle2 hR => ?_
  obtain ⟨hR, e2⟩ := hR
  obtain rfl := e2.symm
  rcases hR with ⟨i, b, rfl, hb, hn⟩ | ⟨rfl, hno⟩
  · rw [sub_some hs hb hn]
    obtain ⟨ad, p, hel, hto⟩ := B.elem hsl hb
    refine ifd (fun _ => ?_) (fun h => absurd h (by omega))
    refine ext_intro [.slice base bs.length cap] rfl (box_at h) ?_
    refine elem_intro hel ?_
    exact ret_plain ⟨_, rfl, hto⟩
  · rw [sub_none hno]
    refine ifd (fun h => absurd h (by omega)) (fun _ => ?_)
    exact ret_plain rfl
theorem replaced1_counts {k : FuncId} {caps : List Value} {f : Int → Option T} {r : Nat} {ty : TypeId} (hk : Looks k caps μ f) (hf : ∀ n y, f n = some y → y.ok) (h : μ r = some (.cells #[.func (.func k) #[] caps.toArray] ty (0, 0))) :
    Counts 96 [.pointer (some ⟨r, 0, none⟩)] μ (cntOf f) := fun n => by
  refine (Spec.forget (R := fun v => v = .int .i64 (cntOf f n)) (Spec.mk Try.func96 (by kernel_rfl) ?_))
  refine ext_intro [.func (.func k) #[] caps.toArray] rfl (box_at h) ?_
  refine call_plain (hk μ (Mem.Le.refl μ) n) fun v μ1 hle1 hR => ?_
  simp only [cntOf]
  cases hs : f n with
  | some y =>
    rw [hs] at hR
    obtain ⟨tv, rfl, htv⟩ := hR
    obtain ⟨q, rfl⟩ := Tm.invV htv
    intro r3
    refine if_intro (fun _ => ?_) (fun h => nomatch h)
    refine call_gives (nodesOf_spec y.tm htv (by decide) (by decide)) ?_
    have hy := (hf n y hs).tm
    rw [Tm.nodes_pos hy.1 (by have := hy.2; omega), T.cnt_tm]
    exact ret_plain rfl
  | none =>
    rw [hs] at hR
    obtain rfl := hR
    intro r3
    refine if_intro (fun h => nomatch h) (fun _ => ?_)
    exact ret_plain rfl
/-- A substituted term, if it is not too big. -/
noncomputable def fit (x : T) : Option T := if x.size ≤ 5000 then some x else none
theorem replaced_spec {k : FuncId} {caps : List Value} {f : Int → Option T} (x : T) {v : Value} (hk : Looks k caps μ f) (hf : ∀ n y, f n = some y → y.ok) (hv : RepV μ x.tm.d v) :
    Spec Try.prog 85 [v, .func (.func k) #[] caps.toArray] μ fun v μ' => optV (fun y tv => Fresh μ μ' y.tm.d tv) (fit (x.subst f)) v := by
  obtain ⟨p, rfl⟩ := Tm.invV hv
  have hc : ∀ n, cntOf f n ≤ 5000 := fun n => by
    simp only [cntOf]
    split
    · rename_i y hy
      exact (hf n y hy).2
    · omega
  refine Spec.mk Try.func85 (by kernel_rfl) ?_
  intro r1 r2 r3
  refine call_frz [1] ?_
  intro μ1 hle1 hno1 hat1
  have hk1 : Looks k caps μ1 f := fun μ' h => hk μ' (hle1.trans h)
  refine call_go (sizeWith_spec (replaced1_counts hk1 hf hat1) hc x (hv.mono hle1)) fun v μ2 hle2 hR => ?_
  obtain ⟨rfl, e2⟩ := hR
  obtain rfl := e2.symm
  refine ifd (fun h => ?_) (fun h => ?_)
  · rw [fit, if_neg (by omega)]
    exact ret_plain rfl
  · rw [fit, if_pos (by omega)]
    refine ext_intro [.func (.func k) #[] caps.toArray] rfl (box_at hat1) ?_
    refine call_plain (mapVars_spec x hk1 (hv.mono hle1)) fun v2 μ3 hle3 hR3 => ?_
    obtain ⟨q, rfl⟩ := Tm.invV hR3.rep
    exact ret_plain ⟨_, rfl, hR3.mono hle1 (Mem.Le.refl _)⟩
theorem put_spec {bs : List B} {base : Option Addr} {cap : Nat} (x : T) {v : Value} (hs : Srt bs) (hlen : bs.length ≤ 1000000000) (hk : ∀ b ∈ bs, b.to.ok) (hsl : Sl μ 5 base bs.length ((bs.map B.bd).map Bd.d)) (hv : RepV μ x.tm.d v) :
    Spec Try.prog 59 [.slice base bs.length cap, v] μ fun v μ' => optV (fun y tv => Fresh μ μ' y.tm.d tv) (fit (x.subst (sub bs))) v := by
  obtain ⟨p, rfl⟩ := Tm.invV hv
  refine Spec.mk Try.func59 (by kernel_rfl) ?_
  intro r1 r2 r3
  refine call_frz [0] ?_
  intro μ1 hle1 hno1 hat1
  refine call_go (replaced_spec x (put1_looks hs hlen (hsl.mono hle1) hat1) (fun n y h => sub_ok hk h) (hv.mono hle1)) fun v μ2 hle2 hR => ?_
  cases hf : fit (x.subst (sub bs)) with
  | some y =>
    rw [hf] at hR
    obtain ⟨tv, rfl, htv⟩ := hR
    obtain ⟨q, rfl⟩ := Tm.invV htv.rep
    exact ret_plain ⟨_, rfl, htv.mono hle1 (Mem.Le.refl _)⟩
  | none =>
    rw [hf] at hR
    obtain rfl := hR
    exact ret_plain rfl
theorem impl_Instantiate_spec {t : Tm} {l : List Bd} {v : Value} {base : Option Addr} {cap : Nat} (hv : RepV μ t.d v) (hsl : Sl μ 5 base l.length (l.map Bd.d)) :
    Spec Try.prog 28 [v, .slice base l.length cap] μ fun v μ' => optV (fun y tv => Fresh μ μ' y.tm.d tv) (inst t l) v := by
  obtain ⟨p, rfl⟩ := Tm.invV hv
  refine Spec.mk Try.func28 (by kernel_rfl) ?_
  intro r1 r2
  refine call_gives (impl_TermOk_spec t hv) ?_
  refine ifnd (fun h => ret_plain (by rw [inst, if_neg fun k => h k.1]; rfl)) (fun h1 => ?_)
  refine call_gives (impl_ValuesOk_spec hsl) ?_
  refine ifnd (fun h => ret_plain (by rw [inst, if_neg fun k => h k.2.1]; rfl)) (fun h2 => ?_)
  have e1 := h1.toT.2
  have e2 := h2.lift.1
  have hv' : RepV μ t.toT.tm.d (.agg #[.int .i64 t.kind, .int .i64 t.num, .string t.name, .slice p.1 t.args.length p.2]) := by rw [e1]; exact hv
  have hsl' : Sl μ 5 base (l.map Bd.b).length (((l.map Bd.b).map B.bd).map Bd.d) := by rw [e2, List.length_map]; exact hsl
  have hcall := put_spec (cap := cap) t.toT h2.srt (by rw [List.length_map]; have := h2.1; omega) h2.lift.2 hsl' hv'
  rw [List.length_map] at hcall
  refine call_plain hcall fun v1 μ1 hle1 hR => ?_
  have e3 : inst t l = fit (t.toT.subst (sub (l.map Bd.b))) := by
    rw [inst, fit]
    by_cases h3 : (t.toT.subst (sub (l.map Bd.b))).size ≤ 5000
    · rw [if_pos ⟨h1, h2, h3⟩, if_pos h3]
    · rw [if_neg fun k => h3 k.2.2, if_neg h3]
  rw [e3]
  cases hf : fit (t.toT.subst (sub (l.map Bd.b))) with
  | some y =>
    rw [hf] at hR
    obtain ⟨tv, rfl, htv⟩ := hR
    obtain ⟨q, rfl⟩ := Tm.invV htv.rep
    exact ret_plain ⟨_, rfl, htv⟩
  | none =>
    rw [hf] at hR
    obtain rfl := hR
    exact ret_plain rfl
end
end Go.Vx

/- Contracts: terms compared. -/
namespace Go.Vx
open Go.Proofs Classical
def sgn (b : Bool) : Int := if b then -1 else 1
/-- The comparison of two terms' own fields, then the rest. -/
noncomputable def hdCmp (x y : Tm) (rest : Int) : Int :=
  if x.kind ≠ y.kind then sgn (decide (x.kind < y.kind)) else if x.num ≠ y.num then sgn (decide (x.num < y.num)) else if x.name ≠ y.name then sgn (Op.bytesLess x.name.data.toList y.name.data.toList) else rest
noncomputable def T.cmp : T → T → Int
  | .pair a b, .pair c d => if a.cmp c = 0 then b.cmp d else a.cmp c
  | .pair a b, .nil => hdCmp (T.pair a b).tm T.nil.tm 0
  | .pair a b, .var n => hdCmp (T.pair a b).tm (T.var n).tm 0
  | .pair a b, .sym n => hdCmp (T.pair a b).tm (T.sym n).tm 0
  | .pair a b, .num n => hdCmp (T.pair a b).tm (T.num n).tm 0
  | .nil, y => hdCmp T.nil.tm y.tm 0
  | .var n, y => hdCmp (T.var n).tm y.tm 0
  | .sym n, y => hdCmp (T.sym n).tm y.tm 0
  | .num n, y => hdCmp (T.num n).tm y.tm 0
theorem sgn_ne (b : Bool) : sgn b ≠ 0 := by cases b <;> simp [sgn]
theorem hdCmp_zero {x y : Tm} {r : Int} : hdCmp x y r = 0 ↔ x.kind = y.kind ∧ x.num = y.num ∧ x.name = y.name ∧ r = 0 := by
  unfold hdCmp
  split
  · rename_i h; exact ⟨fun k => absurd k (sgn_ne _), fun k => absurd k.1 h⟩
  · split
    · rename_i h; exact ⟨fun k => absurd k (sgn_ne _), fun k => absurd k.2.1 h⟩
    · split
      · rename_i h; exact ⟨fun k => absurd k (sgn_ne _), fun k => absurd k.2.2.1 h⟩
      · rename_i h1 h2 h3
        exact ⟨fun k => ⟨Classical.not_not.1 h1, Classical.not_not.1 h2, Classical.not_not.1 h3, k⟩, fun k => k.2.2.2⟩
theorem T.cmp_zero : ∀ x y : T, x.cmp y = 0 ↔ x = y := by
  intro x
  induction x with
  | pair a b iha ihb =>
    intro y
    cases y with
    | pair c d =>
      rw [T.cmp, T.pair.injEq, ← iha, ← ihb]
      split
      · rename_i h; exact ⟨fun k => ⟨h, k⟩, fun k => k.2⟩
      · rename_i h; exact ⟨fun k => absurd k h, fun k => absurd k.1 h⟩
    | _ => rw [T.cmp, hdCmp_zero]; simp [T.tm, Tm.kind]
  | _ =>
    intro y
    rw [T.cmp, hdCmp_zero]
    cases y <;> simp [T.tm, Tm.kind, Tm.num, Tm.name]
theorem hd1 {x y : Tm} {r : Int} (h : ¬ x.kind = y.kind) : hdCmp x y r = sgn (decide (x.kind < y.kind)) := by rw [hdCmp, if_pos h]
theorem hd2 {x y : Tm} {r : Int} (h1 : x.kind = y.kind) (h : ¬ x.num = y.num) : hdCmp x y r = sgn (decide (x.num < y.num)) := by rw [hdCmp, if_neg (fun k => k h1), if_pos h]
theorem hd3 {x y : Tm} {r : Int} (h1 : x.kind = y.kind) (h2 : x.num = y.num) (h : ¬ x.name = y.name) : hdCmp x y r = sgn (Op.bytesLess x.name.data.toList y.name.data.toList) := by rw [hdCmp, if_neg (fun k => k h1), if_neg (fun k => k h2), if_pos h]
theorem hd4 {x y : Tm} {r : Int} (h1 : x.kind = y.kind) (h2 : x.num = y.num) (h : x.name = y.name) : hdCmp x y r = r := by rw [hdCmp, if_neg (fun k => k h1), if_neg (fun k => k h2), if_neg (fun k => k h)]
section
variable {μ : Mem}
theorem orderInts_spec (a b : Int) (h : ¬ a = b) : Gives Try.prog 101 [.int .i64 a, .int .i64 b] μ (.int .i64 (sgn (decide (a < b)))) := by
  refine Spec.mk Try.func101 (by kernel_rfl) ?_
  refine ifd (fun h1 => ret_gives ?_ rfl) (fun h1 => ?_)
  · rw [decide_eq_true h1]; rfl
  refine ifd (fun h2 => ret_gives ?_ rfl) (fun h2 => by omega)
  rw [decide_eq_false h1]; rfl
theorem l02Sign_spec (b : Bool) : Gives Try.prog 100 [.bool b] μ (.int .i64 (sgn b)) := by
  refine Spec.mk Try.func100 (by kernel_rfl) ?_
  refine if_intro (fun h1 => ret_gives ?_ rfl) (fun h1 => ret_gives ?_ rfl)
  · rw [h1]; rfl
  · rw [h1]; rfl
noncomputable def T.rest : T → T → Int
  | .pair a b, .pair c d => if a.cmp c = 0 then b.cmp d else a.cmp c
  | _, _ => 0
theorem T.cmp_eq (x y : T) : x.cmp y = hdCmp x.tm y.tm (x.rest y) := by
  cases x with
  | pair a b =>
    cases y with
    | pair c d => rw [T.cmp, hd4 (x := (T.pair a b).tm) (y := (T.pair c d).tm) rfl rfl rfl]; rfl
    | _ => rw [T.cmp]; rfl
  | _ => rw [T.cmp]; rfl
theorem T.rest_at {x y : T} {i : Nat} {p q : T} (h : ∀ j p q, j < i → x.args[j]? = some p → y.args[j]? = some q → p.cmp q = 0) (hp : x.args[i]? = some p) (hq : y.args[i]? = some q) (hne : p.cmp q ≠ 0) : x.rest y = p.cmp q := by
  cases x with
  | pair a b =>
    cases y with
    | pair c d =>
      simp only [T.rest]
      match i, hp, hq with
      | 0, hp, hq => cases hp; cases hq; rw [if_neg hne]
      | 1, hp, hq =>
        cases hp; cases hq
        have := h 0 a c (by omega) rfl rfl
        rw [if_pos this]
      | i + 2, hp, hq => simp [T.args] at hp
    | _ => simp [T.args] at hq
  | _ => simp [T.args] at hp
theorem T.rest_zero {x y : T} (h : ∀ (j : Nat) p q, j < x.args.length → x.args[j]? = some p → y.args[j]? = some q → p.cmp q = 0) : x.rest y = 0 := by
  cases x with
  | pair a b =>
    cases y with
    | pair c d =>
      have h0 := h 0 a c (by simp [T.args]) rfl rfl
      have h1 := h 1 b d (by simp [T.args]) rfl rfl
      simp only [T.rest]
      rw [if_pos h0, h1]
    | _ => rfl
  | _ => rfl
theorem T.args_kind {x y : T} (h : x.tm.kind = y.tm.kind) : x.args.length = y.args.length := by
  cases x <;> cases y <;> simp_all [T.tm, Tm.kind, T.args]
theorem T.kind4 {x : T} (h : x.tm.kind = 4) : ∃ a b, x = .pair a b := by
  cases x <;> simp_all [T.tm, Tm.kind]
theorem T.arg {μ : Mem} {x : T} {base : Option Addr} (h : Sl μ 4 base x.args.length ((x.args.map T.tm).map Tm.d)) {i : Nat} {y : T} (hy : x.args[i]? = some y) : ∃ ad, ∃ p : Option Addr × Nat, ElemAt μ base x.args.length 4 i ad (y.tm.cs p) ∧ RepV μ y.tm.d (.agg (y.tm.cs p).toArray) :=
  Tm.elem h (by simp [hy])
theorem orderTerms_spec : ∀ (x y : T) {v w : Value}, RepV μ x.tm.d v → RepV μ y.tm.d w → Gives Try.prog 92 [v, w] μ (.int .i64 (x.cmp y)) :=
  T.ind fun x ih y v w hv hw => by
    obtain ⟨b1, c1, rfl, hs1⟩ := T.inv hv
    obtain ⟨b2, c2, rfl, hs2⟩ := T.inv hw
    rw [T.cmp_eq]
    refine Spec.mk Try.func92 (by kernel_rfl) ?_
    intro r1 r2
    refine ifnd (fun h => ?_) (fun h1 => ?_)
    · exact call_gives (orderInts_spec _ _ h) (ret_gives (by rw [hd1 h]) rfl)
    refine ifnd (fun h => ?_) (fun h2 => ?_)
    · exact call_gives (orderInts_spec _ _ h) (ret_gives (by rw [hd2 h1 h]) rfl)
    refine ifnd (fun h => ?_) (fun h3 => ?_)
    · refine if_intro (fun h4 => ret_gives ?_ rfl) (fun h4 => ret_gives ?_ rfl)
      · rw [hd3 h1 h2 h, h4]; rfl
      · rw [hd3 h1 h2 h, h4]; rfl
    rw [hd4 h1 h2 h3]
    refine ifnd (fun h => ?_) (fun h4 => ?_)
    · refine ret_gives ?_ rfl
      have : x.rest y = 0 := by cases x <;> first | rfl | exact absurd rfl h
      rw [this]
    obtain ⟨a, b, rfl⟩ := T.kind4 h4
    obtain ⟨c, d, rfl⟩ := T.kind4 (h1 ▸ h4)
    obtain ⟨ad1, p1, e1, g1⟩ := T.arg hs1 (i := 0) rfl
    obtain ⟨ad2, p2, e2, g2⟩ := T.arg hs2 (i := 0) rfl
    obtain ⟨ad3, p3, e3, g3⟩ := T.arg hs1 (i := 1) rfl
    obtain ⟨ad4, p4, e4, g4⟩ := T.arg hs2 (i := 1) rfl
    refine elem_intro e1 (elem_intro e2 (call_gives (ih a (by simp [T.args]) c g1 g2) ?_))
    simp only [T.rest]
    refine ifnd (fun h => ?_) (fun h5 => ?_)
    · rw [if_neg h]; exact ret_gives rfl rfl
    · rw [if_pos h5]
      exact elem_intro e3 (elem_intro e4 (call_gives (ih b (by simp [T.args]) d g3 g4) (ret_gives rfl rfl)))
theorem l02Cmp_spec : ∀ (x y : T) {v w : Value}, RepV μ x.tm.d v → RepV μ y.tm.d w → Gives Try.prog 89 [v, w] μ (.int .i64 (x.cmp y)) :=
  T.ind fun x ih y v w hv hw => by
    obtain ⟨b1, c1, rfl, hs1⟩ := T.inv hv
    obtain ⟨b2, c2, rfl, hs2⟩ := T.inv hw
    have hn := T.args_le x
    rw [T.cmp_eq]
    refine Spec.mk Try.func89 (by kernel_rfl) ?_
    intro r1 r2
    refine ifnd (fun h => ?_) (fun h1 => ?_)
    · exact call_gives (l02Sign_spec _) (ret_gives (by rw [hd1 h]) rfl)
    refine ifnd (fun h => ?_) (fun h2 => ?_)
    · exact call_gives (l02Sign_spec _) (ret_gives (by rw [hd2 h1 h]) rfl)
    refine ifnd (fun h => ?_) (fun h3 => ?_)
    · exact call_gives (l02Sign_spec _) (ret_gives (by rw [hd3 h1 h2 h]) rfl)
    rw [hd4 h1 h2 h3]
    have hlen := T.args_kind h1
    refine loop_intro (fun i : Nat => i ≤ x.args.length ∧ ∀ j p q, j < i → x.args[j]? = some p → y.args[j]? = some q → p.cmp q = 0) (fun i => ⟨[(2, .loc 0 r1 0), (3, .loc 1 r2 0), (5, .val (.int .i64 i))], [(0, some (.cells r1 [.val (.int .i64 x.tm.kind), .val (.int .i64 x.tm.num), .val (.string x.tm.name), .val (.slice b1 x.args.length c1)] 50)), (1, some (.cells r2 [.val (.int .i64 y.tm.kind), .val (.int .i64 y.tm.num), .val (.string y.tm.name), .val (.slice b2 y.args.length c2)] 50))], 2, μ, Mem.nil⟩) (fun i => x.args.length - i)
      0 ⟨by omega, fun j p q hj => by omega⟩ (fun i => ⟨rfl, rfl⟩) ⟨⟨rfl, rfl, rfl, trivial⟩, ⟨rfl, rfl, trivial⟩, rfl, rfl⟩ ?_
    rintro i ⟨hi, hz⟩
    refine ifd (fun h => ?_) (fun h => ?_)
    · refine ifd (fun h' => ?_) (fun h' => by omega)
      obtain ⟨p, hp⟩ := at_some (l := x.args) (i := i) (by omega)
      obtain ⟨q, hq⟩ := at_some (l := y.args) (i := i) (by omega)
      obtain ⟨ad1, p1, e1, g1⟩ := T.arg hs1 hp
      obtain ⟨ad2, p2, e2, g2⟩ := T.arg hs2 hq
      refine elem_intro e1 (elem_intro e2 (call_gives (ih p (mem_at hp) q g1 g2) ?_))
      refine ifnd (fun h5 => ?_) (fun h5 => ?_)
      · rw [T.rest_at hz hp hq h5]; exact ret_gives rfl rfl
      · refine num64 (by omega) (by omega) ⟨i + 1, ⟨by omega, fun j p' q' hj hp' hq' => ?_⟩, by omega, ⟨⟨rfl, rfl, rfl, trivial⟩, ⟨rfl, rfl, trivial⟩, rfl, rfl⟩⟩
        rcases Nat.lt_or_ge j i with h6 | h6
        · exact hz j p' q' h6 hp' hq'
        · obtain rfl : j = i := by omega
          rw [hp] at hp'; rw [hq] at hq'; cases hp'; cases hq'; exact h5
    · obtain rfl : i = x.args.length := by omega
      rw [T.rest_zero hz]
      exact ret_gives rfl rfl
theorem equalTerms_spec (x y : T) {v w : Value} (hv : RepV μ x.tm.d v) (hw : RepV μ y.tm.d w) : Gives Try.prog 71 [v, w] μ (.bool (decide (x = y))) := by
  obtain ⟨p, rfl⟩ := Tm.invV hv
  obtain ⟨q, rfl⟩ := Tm.invV hw
  refine Spec.mk Try.func71 (by kernel_rfl) ?_
  intro r1 r2
  exact call_gives (orderTerms_spec x y hv hw) (ret_gives (isI (T.cmp_zero x y)) rfl)
theorem l02Same_spec (x y : T) {v w : Value} (hv : RepV μ x.tm.d v) (hw : RepV μ y.tm.d w) : Gives Try.prog 66 [v, w] μ (.bool (decide (x = y))) := by
  obtain ⟨p, rfl⟩ := Tm.invV hv
  obtain ⟨q, rfl⟩ := Tm.invV hw
  refine Spec.mk Try.func66 (by kernel_rfl) ?_
  intro r1 r2
  exact call_gives (l02Cmp_spec x y hv hw) (ret_gives (isI (T.cmp_zero x y)) rfl)
/-- A variable as a term. -/
def varV (n : Int) : Value := .agg #[.int .i64 1, .int .i64 n, .string ⟨#[]⟩, .slice none 0 0]
theorem varV_own (n : Int) : OwnV (T.var n).tm.d Mem.nil (varV n) := by
  rw [T.d_eq]
  exact ⟨_, rfl, OwnS.int (OwnS.int (OwnS.str (OwnS.last (Own.nilSl 4))))⟩
theorem varV_rep (n : Int) : RepV μ (T.var n).tm.d (varV n) := (varV_own n).rep (fun _ _ h => nomatch h)
theorem variable_spec (n : Int) : Gives Try.prog 91 [.int .i64 n] μ (varV n) := by
  refine Spec.mk Try.func91 (by kernel_rfl) ?_
  intro r1
  exact ret_gives rfl rfl
theorem l02Var_spec (n : Int) : Gives Try.prog 65 [.int .i64 n] μ (varV n) := by
  refine Spec.mk Try.func65 (by kernel_rfl) ?_
  intro r1
  exact ret_gives rfl rfl
end
end Go.Vx

/- Contracts: which substitutions are fine. -/
namespace Go.Vx
open Go.Proofs Classical
/-! ### Plain -/
def bndOk (bs : List B) (b : B) : Prop := ¬ (b.to.tm.kind = 1 ∧ b.var ≤ b.to.tm.num) ∧ ∀ n ∈ b.to.vars, sub bs n = none
def substOk (l : List Bd) : Prop := valsOk l ∧ ∀ b ∈ l.map Bd.b, bndOk (l.map Bd.b) b
theorem B.bd_b (b : B) : b.bd.b = b := by
  cases b; simp [B.bd, Bd.b, T.toT_tm]
theorem B.map_b (bs : List B) : (bs.map B.bd).map Bd.b = bs := by
  rw [List.map_map]
  conv => rhs; rw [← List.map_id bs]
  exact List.map_congr_left fun b _ => B.bd_b b
/-- A fine list of bindings, as terms. -/
structure Vals (bs : List B) : Prop where
  ok : valsOk (bs.map B.bd)
theorem Vals.len {bs : List B} (h : Vals bs) : bs.length ≤ 400 := by have := h.ok.1; simpa using this
theorem Vals.srt {bs : List B} (h : Vals bs) : Srt bs := by have := h.ok.srt; rwa [B.map_b] at this
theorem Vals.tok {bs : List B} (h : Vals bs) : ∀ b ∈ bs, b.to.ok := by have := h.ok.lift.2; rwa [B.map_b] at this
theorem Vals.var {bs : List B} (h : Vals bs) : ∀ b ∈ bs, 0 ≤ b.var ∧ b.var ≤ 100000 := fun b hb => by
  obtain ⟨i, hi⟩ := List.mem_iff_getElem?.1 hb
  exact (h.ok.2 i b.bd (by simp [hi])).1
theorem valsOk.vals {l : List Bd} (h : valsOk l) : ∃ bs : List B, l = bs.map B.bd ∧ Vals bs := ⟨l.map Bd.b, h.lift.1.symm, ⟨by rw [h.lift.1]; exact h⟩⟩
structure Subst (bs : List B) : Prop where
  vals : Vals bs
  bnd : ∀ b ∈ bs, bndOk bs b
theorem substOk_iff (bs : List B) : substOk (bs.map B.bd) ↔ Subst bs := by
  unfold substOk
  rw [B.map_b]
  exact ⟨fun h => ⟨⟨h.1⟩, h.2⟩, fun h => ⟨h.1.1, h.2⟩⟩
theorem substOk.subst {l : List Bd} (h : substOk l) : ∃ bs : List B, l = bs.map B.bd ∧ Subst bs := by
  obtain ⟨bs, rfl, _⟩ := h.1.vals
  exact ⟨bs, rfl, (substOk_iff bs).1 h⟩
section
variable {μ : Mem}
theorem spec_SubstOk_spec {l : List Bd} {base : Option Addr} {cap : Nat} (hsl : Sl μ 5 base l.length (l.map Bd.d)) (hw : D.wds (l.map Bd.d)) : Gives Try.prog 64 [.slice base l.length cap] μ (.bool (decide (substOk l))) := by
  refine Spec.forget (Spec.mk Try.func64 (by kernel_rfl) ?_)
  refine call_gives (l04Values_spec hsl hw) ?_
  refine ifnd (fun h => ret_plain (isF fun k => h k.1)) (fun hv => ?_)
  obtain ⟨bs, rfl, hbs⟩ := hv.vals
  rw [List.length_map] at hsl ⊢
  have hn := hbs.len
  refine loop_intro (fun p : Nat × Mem => p.1 ≤ bs.length ∧ μ.Le p.2 ∧ ∀ (j : Nat) b, j < p.1 → bs[j]? = some b → bndOk bs b)
    (fun (i, μ') => ⟨[(0, .val (.slice base bs.length cap)), (12, .val (.slice base bs.length cap)), (13, .val (.int .i64 bs.length)), (14, .val (.int .i64 i))], [], 0, μ', Mem.nil⟩) (fun p => bs.length - p.1)
    (0, μ) ⟨by simp, Mem.Le.refl μ, fun j b hj => by simp at hj⟩ (fun (_, _) => ⟨rfl, rfl⟩) ⟨⟨rfl, rfl, rfl, rfl, trivial⟩, trivial, rfl, rfl⟩ ?_
  rintro ⟨i, μ'⟩ ⟨hi, hle, hall⟩
  dsimp only at hi hle hall
  refine ifd (fun h => ?_) (fun h => ?_)
  · obtain ⟨b, hb⟩ := at_some (l := bs) (i := i) (by omega)
    obtain ⟨ad, p, hel, hto⟩ := B.elem (hsl.mono hle) hb
    have hsz := (hbs.tok b (mem_at hb)).2
    have hvs := T.vars_size b.to
    have bad : ¬ bndOk bs b → Value.bool false = .bool (decide (substOk (bs.map B.bd))) := fun k => isF fun hs => k (((substOk_iff bs).1 hs).bnd b (mem_at hb))
    refine elem_intro hel ?_
    intro r
    refine ifd (fun h1 => ?_) (fun h1 => ?_)
    · refine ifd (fun h2 => ret_plain (bad fun k => k.1 ⟨h1, h2⟩)) (fun h2 => ?_)
      have hk : ¬ (b.to.tm.kind = 1 ∧ b.var ≤ b.to.tm.num) := fun k => h2 k.2
      refine call_plain (l02Vars_spec b.to (l := []) hto (Rep.nilSl 1) (by simp; omega)) fun v μ2 hle2 hR => ?_
      obtain ⟨rs, hrs, hmem, hlen⟩ := hR
      obtain ⟨vb, vc, rfl, hvs⟩ := Rep.sl hrs
      rw [List.length_map] at hvs hrs ⊢
      have hsl2 := (hsl.mono hle).mono hle2
      refine loop_intro (fun k : Nat => k ≤ rs.length ∧ ∀ (j : Nat) n, j < k → rs[j]? = some n → sub bs n = none)
        (fun k => ⟨[(0, .val (.slice base bs.length cap)), (12, .val (.slice base bs.length cap)), (13, .val (.int .i64 bs.length)), (14, .val (.int .i64 i)), (32, .val (.slice vb rs.length vc)), (33, .val (.int .i64 rs.length)), (34, .val (.int .i64 k))], [], 0, μ2, Mem.nil⟩) (fun k => rs.length - k)
        0 ⟨by omega, fun j n hj => by omega⟩ (fun k => ⟨rfl, rfl⟩) ⟨⟨rfl, rfl, rfl, rfl, rfl, rfl, rfl, trivial⟩, trivial, rfl, rfl⟩ ?_
      rintro k ⟨hkl, hz⟩
      have hrl : rs.length ≤ 5000 := by simp at hlen; omega
      refine ifd (fun h5 => ?_) (fun h5 => ?_)
      · obtain ⟨n, hn'⟩ := at_some (l := rs) (i := k) (by omega)
        obtain ⟨ad2, hel2⟩ := Ints.elem hvs hn'
        refine elem_intro hel2 ?_
        refine call_plain (l04Get_spec hsl2) fun v' μ3 hle3 hR3 => ?_
        obtain ⟨hR3, e3⟩ := hR3
        obtain rfl := e3.symm
        cases hs : sub bs n with
        | some y =>
          rw [hs] at hR3
          obtain ⟨tv, rfl, htv⟩ := hR3
          obtain ⟨q, rfl⟩ := Tm.invV htv
          intro r7
          refine if_intro (fun _ => ret_plain (bad fun k => ?_)) (fun h => nomatch h)
          have := k.2 n (((hmem n).1 (mem_at hn')).elim id (fun h => absurd h (by simp)))
          rw [hs] at this; cases this
        | none =>
          rw [hs] at hR3
          obtain rfl := hR3
          intro r7
          refine if_intro (fun h => nomatch h) (fun _ => ?_)
          refine num64 (by omega) (by omega) ⟨k + 1, ⟨by omega, fun j m hj hm => ?_⟩, by omega, ⟨⟨rfl, rfl, rfl, rfl, rfl, rfl, rfl, trivial⟩, trivial, rfl, rfl⟩⟩
          rcases Nat.lt_or_ge j k with h6 | h6
          · exact hz j m h6 hm
          · obtain rfl : j = k := by omega
            rw [hn'] at hm; cases hm; exact hs
      · obtain rfl : k = rs.length := by omega
        refine num64 (by omega) (by omega) ⟨(i + 1, μ2), ⟨by dsimp only; omega, hle.trans hle2, fun j c hj hc => ?_⟩, by dsimp only; omega, ⟨⟨rfl, rfl, rfl, rfl, trivial⟩, trivial, rfl, rfl⟩⟩
        dsimp only at hj
        rcases Nat.lt_or_ge j i with h6 | h6
        · exact hall j c h6 hc
        · obtain rfl : j = i := by omega
          rw [hb] at hc; cases hc
          refine ⟨hk, fun n hnv => ?_⟩
          obtain ⟨m, hm⟩ := List.mem_iff_getElem?.1 ((hmem n).2 (.inl hnv))
          exact hz m n (List.getElem?_eq_some_iff.1 hm).1 hm
    · have hk : ¬ (b.to.tm.kind = 1 ∧ b.var ≤ b.to.tm.num) := fun k => h1 k.1
      refine call_plain (l02Vars_spec b.to (l := []) hto (Rep.nilSl 1) (by simp; omega)) fun v μ2 hle2 hR => ?_
      obtain ⟨rs, hrs, hmem, hlen⟩ := hR
      obtain ⟨vb, vc, rfl, hvs⟩ := Rep.sl hrs
      rw [List.length_map] at hvs hrs ⊢
      have hsl2 := (hsl.mono hle).mono hle2
      refine loop_intro (fun k : Nat => k ≤ rs.length ∧ ∀ (j : Nat) n, j < k → rs[j]? = some n → sub bs n = none)
        (fun k => ⟨[(0, .val (.slice base bs.length cap)), (12, .val (.slice base bs.length cap)), (13, .val (.int .i64 bs.length)), (14, .val (.int .i64 i)), (32, .val (.slice vb rs.length vc)), (33, .val (.int .i64 rs.length)), (34, .val (.int .i64 k))], [], 0, μ2, Mem.nil⟩) (fun k => rs.length - k)
        0 ⟨by omega, fun j n hj => by omega⟩ (fun k => ⟨rfl, rfl⟩) ⟨⟨rfl, rfl, rfl, rfl, rfl, rfl, rfl, trivial⟩, trivial, rfl, rfl⟩ ?_
      rintro k ⟨hkl, hz⟩
      have hrl : rs.length ≤ 5000 := by simp at hlen; omega
      refine ifd (fun h5 => ?_) (fun h5 => ?_)
      · obtain ⟨n, hn'⟩ := at_some (l := rs) (i := k) (by omega)
        obtain ⟨ad2, hel2⟩ := Ints.elem hvs hn'
        refine elem_intro hel2 ?_
        refine call_plain (l04Get_spec hsl2) fun v' μ3 hle3 hR3 => ?_
        obtain ⟨hR3, e3⟩ := hR3
        obtain rfl := e3.symm
        cases hs : sub bs n with
        | some y =>
          rw [hs] at hR3
          obtain ⟨tv, rfl, htv⟩ := hR3
          obtain ⟨q, rfl⟩ := Tm.invV htv
          intro r7
          refine if_intro (fun _ => ret_plain (bad fun k => ?_)) (fun h => nomatch h)
          have := k.2 n (((hmem n).1 (mem_at hn')).elim id (fun h => absurd h (by simp)))
          rw [hs] at this; cases this
        | none =>
          rw [hs] at hR3
          obtain rfl := hR3
          intro r7
          refine if_intro (fun h => nomatch h) (fun _ => ?_)
          refine num64 (by omega) (by omega) ⟨k + 1, ⟨by omega, fun j m hj hm => ?_⟩, by omega, ⟨⟨rfl, rfl, rfl, rfl, rfl, rfl, rfl, trivial⟩, trivial, rfl, rfl⟩⟩
          rcases Nat.lt_or_ge j k with h6 | h6
          · exact hz j m h6 hm
          · obtain rfl : j = k := by omega
            rw [hn'] at hm; cases hm; exact hs
      · obtain rfl : k = rs.length := by omega
        refine num64 (by omega) (by omega) ⟨(i + 1, μ2), ⟨by dsimp only; omega, hle.trans hle2, fun j c hj hc => ?_⟩, by dsimp only; omega, ⟨⟨rfl, rfl, rfl, rfl, trivial⟩, trivial, rfl, rfl⟩⟩
        dsimp only at hj
        rcases Nat.lt_or_ge j i with h6 | h6
        · exact hall j c h6 hc
        · obtain rfl : j = i := by omega
          rw [hb] at hc; cases hc
          refine ⟨hk, fun n hnv => ?_⟩
          obtain ⟨m, hm⟩ := List.mem_iff_getElem?.1 ((hmem n).2 (.inl hnv))
          exact hz m n (List.getElem?_eq_some_iff.1 hm).1 hm
  · obtain rfl : i = bs.length := by omega
    exact ret_plain (isT ((substOk_iff bs).2 ⟨hbs, fun b hb => by
      obtain ⟨j, hj⟩ := List.mem_iff_getElem?.1 hb
      exact hall j b (List.getElem?_eq_some_iff.1 hj).1 hj⟩))
/-- A cell of one's own beside other memory. -/
def boolOn (H : Mem) (r : Nat) (b : Bool) : Mem := H.set r (.cells #[.bool b] 4 (0, 0))
noncomputable def unbound (bs : List B) (f : Bool) (n : Int) : Bool := if sub bs n = none then f else false
theorem SubstOk1_spec {bs : List B} {base : Option Addr} {cap : Nat} {H : Mem} {r1 : Nat} {t1 : TypeId} (r : Nat) (b : Bool) (n : Int) (hs : Srt bs) (hlen : bs.length ≤ 1000000000) (hsl : Sl μ 5 base bs.length ((bs.map B.bd).map Bd.d)) (h1 : μ r1 = some (.cells #[.slice base bs.length cap] t1 (0, 0))) :
    SpecH Try.prog 90 [.int .i64 n, .pointer (some ⟨r1, 0, none⟩), .pointer (some ⟨r, 0, none⟩)] μ (boolOn H r b) fun v μ' h' => v = .tuple #[] ∧ μ' = μ ∧ h' = boolOn H r (unbound bs b n) := by
  refine SpecH.mk [] Try.func90 (by kernel_rfl) ?_
  refine ext_intro [.slice base bs.length cap] rfl (box_at h1) ?_
  refine call_plain (find_spec hs hlen hsl) fun v μ2 hle2 hR => ?_
  obtain ⟨hR, e2⟩ := hR
  obtain rfl := e2.symm
  rcases hR with ⟨i, c, rfl, hc, hn⟩ | ⟨rfl, hno⟩
  · refine ifd (fun _ => ?_) (fun h => absurd h (by omega))
    refine sto_intro (h := boolOn H r b) (a := ⟨r, 0, none⟩) [.bool b] 4 (set_self _ _ _) rfl ?_ ?_
    · exact Nat.le_refl _
    have e : sub bs n ≠ none := by rw [sub_some hs hc hn]; exact fun h => nomatch h
    exact ret_plain ⟨rfl, rfl, by rw [unbound, if_neg e]; exact Mem.set_set _ _ _ _⟩
  · refine ifd (fun h => absurd h (by omega)) (fun _ => ?_)
    exact ret_plain ⟨rfl, rfl, by rw [unbound, if_pos (sub_none hno)]⟩
theorem unbound_all (bs : List B) : ∀ (l : List Int) (f : Bool), l.foldl (unbound bs) f = (f && decide (∀ n ∈ l, sub bs n = none))
  | [], f => by simp
  | n :: l, f => by
    rw [List.foldl_cons, unbound_all bs l, unbound]
    by_cases h : sub bs n = none <;> simp [h]
theorem impl_SubstOk_spec {l : List Bd} {base : Option Addr} {cap : Nat} (hsl : Sl μ 5 base l.length (l.map Bd.d)) : Gives Try.prog 67 [.slice base l.length cap] μ (.bool (decide (substOk l))) := by
  refine Spec.forget (Spec.mkO [5] Try.func67 (by kernel_rfl) ?_)
  intro r1
  refine call_frz [0] ?_
  intro μ1 hle1 hno1 hat1
  refine call_go (impl_ValuesOk_spec (hsl.mono hle1)) fun v μ2 hle2 hR => ?_
  obtain ⟨rfl, e2⟩ := hR
  obtain rfl := e2.symm
  refine ifnd (fun h => ret_plain (isF fun k => h k.1)) (fun hv => ?_)
  obtain ⟨bs, rfl, hbs⟩ := hv.vals
  rw [List.length_map] at hsl hat1 ⊢
  have hn := hbs.len
  have hsl1 := hsl.mono hle1
  refine ext_intro [.slice base bs.length cap] rfl (box_at hat1) ?_
  refine loop_intro (fun p : Nat × Mem => p.1 ≤ bs.length ∧ ∀ (j : Nat) b, j < p.1 → bs[j]? = some b → bndOk bs b)
    (fun (i, H) => ⟨[(1, .loc 0 r1 0), (9, .val (.slice base bs.length cap)), (10, .val (.int .i64 bs.length)), (11, .val (.int .i64 i))], [], 1, μ1, H⟩) (fun p => bs.length - p.1)
    (0, Mem.nil) ⟨by simp, fun j b hj => by simp at hj⟩ (fun (_, _) => ⟨rfl, rfl⟩) ⟨⟨rfl, rfl, rfl, rfl, trivial⟩, trivial, rfl, rfl⟩ ?_
  rintro ⟨i, H⟩ ⟨hi, hall⟩
  dsimp only at hi hall
  refine ifd (fun h => ?_) (fun h => ?_)
  · obtain ⟨b, hb⟩ := at_some (l := bs) (i := i) (by omega)
    obtain ⟨ad, p, hel, hto⟩ := B.elem hsl1 hb
    have bad : ¬ bndOk bs b → Value.bool false = .bool (decide (substOk (bs.map B.bd))) := fun k => isF fun hs => k (((substOk_iff bs).1 hs).bnd b (mem_at hb))
    refine elem_intro hel ?_
    intro r r5 hm5 ho5
    refine sto_intro [.bool false] 4 (set_self _ _ _) rfl ?_ ?_
    · exact Nat.le_refl _
    have e : ((H.set r5 (.cells #[.bool false] 4 (0, 0))).set r5 (.cells #[.bool true] 4 (0, 0))) = boolOn H r5 true := Mem.set_set _ _ _ _
    refine call_own (R := fun r μ' h' => r = .tuple #[] ∧ μ' = μ1 ∧ h' = boolOn H r5 (b.to.vars.foldl (unbound bs) true)) ?_ fun v μ' h' hle hap hR => ?_
    · have := eachVar_spec (μ := μ1) (boolOn H r5) (unbound bs) (Q := fun _ => True) (fun s n _ => SubstOk1_spec (H := H) r5 s n hbs.srt (by omega) hsl1 hat1) b.to true hto (fun _ _ => trivial)
      rw [← e] at this
      exact this
    obtain ⟨rfl, e4, rfl⟩ := hR
    obtain rfl := e4.symm
    rw [unbound_all, Bool.true_and]
    refine own_intro [.bool (decide (∀ n ∈ b.to.vars, sub bs n = none))] rfl (fun j v hj => ?_) ?_
    · match j, hj with
      | 0, hj => cases hj; simp [boolOn, Mem.cell, Addr.add_lit', set_self]
    have fin : bndOk bs b → ∀ (j : Nat) c, j < i + 1 → bs[j]? = some c → bndOk bs c := fun hok j c hj hc => by
      rcases Nat.lt_or_ge j i with h6 | h6
      · exact hall j c h6 hc
      · obtain rfl : j = i := by omega
        rw [hb] at hc; cases hc; exact hok
    refine ifnd (fun h1 => ret_plain (bad fun k => h1 k.2)) (fun h1 => ?_)
    refine ifd (fun h2 => ?_) (fun h2 => ?_)
    · refine ifd (fun h3 => ret_plain (bad fun k => k.1 ⟨h2, h3⟩)) (fun h3 => ?_)
      exact num64 (by omega) (by omega) ⟨(i + 1, _), ⟨by dsimp only; omega, fin ⟨fun k => h3 k.2, h1⟩⟩, by dsimp only; omega, ⟨⟨rfl, rfl, rfl, rfl, trivial⟩, trivial, rfl, rfl⟩⟩
    · exact num64 (by omega) (by omega) ⟨(i + 1, _), ⟨by dsimp only; omega, fin ⟨fun k => h2 k.1, h1⟩⟩, by dsimp only; omega, ⟨⟨rfl, rfl, rfl, rfl, trivial⟩, trivial, rfl, rfl⟩⟩
  · obtain rfl : i = bs.length := by omega
    exact ret_plain (isT ((substOk_iff bs).2 ⟨hbs, fun b hb => by
      obtain ⟨j, hj⟩ := List.mem_iff_getElem?.1 hb
      exact hall j b (List.getElem?_eq_some_iff.1 hj).1 hj⟩))
end
end Go.Vx

/- The law FnExactInstantiate keeps its contract. -/
namespace Go.Vx
open Go.Proofs Classical
theorem tm_cnt : ∀ t : Tm, t.d.cnt = 3 * t.cnt :=
  Tm.ind fun k n s l ih => by
    have : D.cnts (l.map Tm.d) = 3 * Tm.cnts l := by
      induction l with
      | nil => rfl
      | cons t l ih2 =>
        have h1 := ih t (by simp)
        have h2 := ih2 fun t ht => ih t (by simp [ht])
        simp only [List.map_cons, D.cnts, Tm.cnts, h1, h2]; omega
    rw [Tm.cnt_eq, Tm.cnt]
    show 3 + D.cnts (l.map Tm.d) = _
    omega
theorem tm_cnt_sz : ∀ t : Tm, t.d.cnt ≤ 3 + 3 * t.d.sz :=
  Tm.ind fun k n s l ih => by
    have : D.cnts (l.map Tm.d) ≤ 3 * l.length + 3 * D.szs (l.map Tm.d) := by
      induction l with
      | nil => simp [D.cnts, D.szs]
      | cons t l ih2 =>
        have h1 := ih t (by simp)
        have h2 := ih2 fun t ht => ih t (by simp [ht])
        simp only [List.map_cons, D.cnts, D.szs, List.length_cons]; omega
    rw [Tm.cnt_eq, Tm.d_mk]
    show 3 + D.cnts (l.map Tm.d) ≤ _
    simp only [D.sz, D.szs, List.length_map]
    omega
theorem bds_cnt : ∀ l : List Bd, D.cnts (l.map Bd.d) ≤ 4 * l.length + 3 * D.szs (l.map Bd.d)
  | [] => by simp [D.cnts, D.szs]
  | b :: l => by
    have h1 := bds_cnt l
    have h2 := tm_cnt_sz b.to
    rw [Tm.cnt_eq] at h2
    have h3 := Bd.cnt_eq b
    have h4 : b.d.sz = b.to.d.sz := by simp [Bd.d, D.sz, D.szs]
    simp only [List.map_cons, D.cnts, D.szs, List.length_cons]; omega
theorem tm_mt (t : Tm) (k : Int) : (t.d.mt k).2 = k + D.cnts (t.args.map Tm.d) := by rw [Tm.mt_eq]; exact D.mks_cnt _ _
/-- The term of an answer. -/
def resTm : Option T → Tm
  | some y => y.tm
  | none => .mk 0 0 ⟨#[]⟩ []
theorem zero_own : OwnV (resTm none).d Mem.nil (.agg #[.int .i64 0, .int .i64 0, .string ⟨#[]⟩, .slice none 0 0]) := by
  rw [resTm, Tm.d_mk]
  exact ⟨_, rfl, OwnS.int (OwnS.int (OwnS.str (OwnS.last (Own.nilSl 4))))⟩
theorem optV_rep {μ : Mem} {o : Option T} {v : Value} (h : optV (fun y tv => RepV μ y.tm.d tv) o v) : ∃ tv, v = .tuple #[tv, .bool o.isSome] ∧ RepV μ (resTm o).d tv := by
  cases o with
  | some y => obtain ⟨tv, rfl, h⟩ := h; exact ⟨tv, rfl, h⟩
  | none => exact ⟨_, h, zero_own.rep (fun _ _ h => nomatch h)⟩
theorem optV_fresh {μ μ' : Mem} {o : Option T} {v : Value} (h : optV (fun y tv => Fresh μ μ' y.tm.d tv) o v) : ∃ tv, v = .tuple #[tv, .bool o.isSome] ∧ Fresh μ μ' (resTm o).d tv := by
  cases o with
  | some y => obtain ⟨tv, rfl, h⟩ := h; exact ⟨tv, rfl, h⟩
  | none => exact ⟨_, h, Mem.nil, zero_own, (fun _ _ h => nomatch h), fun _ h => absurd rfl h⟩
theorem inst_size (t : Tm) (l : List Bd) : (resTm (inst t l)).cnt ≤ 5000 := by
  unfold inst
  split
  · rename_i h
    rw [resTm, T.cnt_tm]; exact h.2.2
  · show 1 + 0 ≤ 5000; omega
section
variable {μ : Mem}
set_option maxHeartbeats 4000000 in
theorem FnExactInstantiate_spec {t : Tm} {l : List Bd} {vt vl : Value} (ht : RepV μ t.d vt) (hl : RepV μ (.sl 5 (l.map Bd.d)) vl) (wt : t.d.wd) (wl : D.wds (l.map Bd.d)) :
    Spec Try.prog 6 [vt, vl] μ fun r _ => r = .bool true := by
  obtain ⟨pt, rfl⟩ := Tm.invV ht
  obtain ⟨lb, lc, rfl, hsl⟩ := Rep.sl hl
  rw [List.length_map] at hsl hl ⊢
  refine Spec.mk Try.func6 (by kernel_rfl) ?_
  intro r1
  refine call_gives (szTerm_spec t ht (by omega) (by omega) wt) ?_
  refine ifd (fun h => ret_plain rfl) (fun h => ?_)
  have hbt := szR_ge h
  rw [szR_pos hbt]
  refine call_gives (szBindingS_spec hsl (by omega) (by omega) wl) ?_
  refine ifd (fun h => ret_plain rfl) (fun h => ?_)
  have hbl := szR_ge h
  have hbt : t.d.sz ≤ 1048576 := by omega
  have hbl : l.length + D.szs (l.map Bd.d) ≤ 1048576 := by omega
  -- the reference's answer
  refine call_plain (toTerm_spec t ht hbt) fun v1 μ1 hle1 hf1 => ?_
  refine call_plain (toBindingS_spec (hsl.mono hle1) hbl) fun v2 μ2 hle2 hf2 => ?_
  obtain ⟨b2, c2, rfl, hs2⟩ := Rep.sl hf2.rep
  rw [List.length_map] at hs2 ⊢
  refine call_plain (spec_Instantiate_spec (hf1.rep.mono hle2) wt hs2 wl) fun v μ3 hle3 hR => ?_
  obtain ⟨w0, rfl, hw⟩ := optV_rep hR
  obtain ⟨pw, rfl⟩ := Tm.invV hw
  have ht3 := ((ht.mono hle1).mono hle2).mono hle3
  have hl3 := ((hsl.mono hle1).mono hle2).mono hle3
  intro r3
  -- the arguments' copies
  refine call_new id (apart_nil _) Owns.none ((toTerm_spec t (ht3.mono (Mem.le_join _ _)) hbt).weaken fun v μ' _ h => ⟨v, rfl, h⟩) fun x0 μ4 H4 hle4 hap4 ho4 => ?_
  obtain ⟨px, rfl⟩ := Tm.invV (Owns.rep (l1 := []) hap4 ho4)
  intro r4
  have ht4 := ht3.mono hle4
  have hl4 := hl3.mono hle4
  have hw4 := hw.mono hle4
  refine call_new id hap4 ho4 ((toBindingS_spec (hl4.mono (Mem.le_join _ _)) hbl).weaken fun v μ' _ h => ⟨v, rfl, h⟩) fun x1 μ5 H5 hle5 hap5 ho5 => ?_
  have hx1 := Owns.rep (l1 := [_]) hap5 ho5
  obtain ⟨yb, yc, rfl, hx1s⟩ := Rep.sl hx1
  rw [List.length_map] at *
  have ht5 := ht4.mono hle5
  have hl5 := hl4.mono hle5
  have hw5 := hw4.mono hle5
  -- the program's answer
  refine call_new (fun gv => .tuple #[gv, .bool (inst t l).isSome]) hap5 ho5 ((impl_Instantiate_spec (Owns.rep (l1 := []) hap5 ho5) hx1s).weaken fun v μ' _ h => optV_fresh h) fun g0 μ6 H6 hle6 hap6 ho6 => ?_
  obtain ⟨pg, rfl⟩ := Tm.invV (Owns.rep (l1 := [_, _]) hap6 ho6)
  intro r6
  have ht6 := ht5.mono hle6
  have hl6 := hl5.mono hle6
  have hw6 := hw5.mono hle6
  refine call_read hap6 (eqTerm_spec _ (Owns.rep (l1 := [_, _]) hap6 ho6) (hw6.mono (Mem.le_join _ _))) ?_
  refine if_intro (fun h => nomatch h) (fun _ => ?_)
  refine if_intro (fun h => absurd h (by simp)) (fun _ => ?_)
  refine call_data hap6 (toTerm_spec t ht6 hbt) fun v7 μ7 hle7 hap7 hf7 => ?_
  have ht7 := ht6.mono hle7
  have hl7 := hl6.mono hle7
  have hw7 := hw6.mono hle7
  refine call_read hap7 (eqTerm_spec t (Owns.rep (l1 := []) hap7 ho6) (hf7.rep.mono (Mem.le_join _ _))) ?_
  refine if_intro (fun h => nomatch h) (fun _ => ?_)
  refine call_data hap7 (toBindingS_spec hl7 hbl) fun v8 μ8 hle8 hap8 hf8 => ?_
  have ht8 := ht7.mono hle8
  have hl8 := hl7.mono hle8
  have hw8 := hw7.mono hle8
  obtain ⟨b8, c8, rfl, hs8⟩ := Rep.sl hf8.rep
  obtain ⟨yb', yc', e8, hy8⟩ := Rep.sl (Owns.rep (l1 := [_]) hap8 ho6)
  rw [List.length_map] at *
  obtain ⟨rfl, _, rfl⟩ := Value.slice.inj e8
  refine call_read hap8 (eqBindingS_spec hy8 (hs8.mono (Mem.le_join _ _))) ?_
  refine if_intro (fun h => nomatch h) (fun _ => ?_)
  -- marks
  have ca := tm_cnt_sz t
  rw [Tm.cnt_eq] at ca
  have cb := bds_cnt l
  have cg := tm_cnt (resTm (inst t l))
  have cg2 := inst_size t l
  rw [Tm.cnt_eq] at cg
  have ma := tm_mt t 1
  have mg := tm_mt (resTm (inst t l)) 1
  have mb := D.mks_cnt (l.map Bd.d) (t.d.mt 1).2
  refine call_mark (l1 := []) hap8 ho6 (fun hx o => markTerm_spec t o (by omega) (by omega)) fun H9 hap9 ho9 => ?_
  refine call_mark (l1 := [_]) hap9 ho9 (fun hx o => markBindingS_spec o (by omega) (by omega)) fun H10 hap10 ho10 => ?_
  refine ifd (fun h => by omega) (fun _ => ?_)
  refine call_read hap10 (eqTerm_spec _ (Owns.rep (l1 := [_, _]) hap10 ho10) (hw8.mono (Mem.le_join _ _))) ?_
  refine if_intro (fun h => nomatch h) (fun _ => ?_)
  refine if_intro (fun h => absurd h (by simp)) (fun _ => ?_)
  refine call_mark (l1 := [_, _]) hap10 ho10 (fun hx o => markTerm_spec _ o (by omega) (by omega)) fun H11 hap11 ho11 => ?_
  refine call_read hap11 (heldTerm_spec _ (Owns.rep (l1 := [_, _]) hap11 ho11) (by omega) (by omega)) ?_
  refine ifd (fun h => by omega) (fun _ => ?_)
  refine ifnd (fun h => absurd rfl h) (fun _ => ?_)
  -- once more
  refine call_data hap11 (toTerm_spec t ht8 hbt) fun v12 μ12 hle12 hap12 hf12 => ?_
  refine call_data hap12 (toBindingS_spec (hl8.mono hle12) hbl) fun v13 μ13 hle13 hap13 hf13 => ?_
  obtain ⟨b13, c13, rfl, hs13⟩ := Rep.sl hf13.rep
  rw [List.length_map] at *
  refine call_data hap13 ((impl_Instantiate_spec (hf12.rep.mono hle13) hs13).weaken fun v μ' _ h => optV_fresh h) fun v14 μ14 hle14 hap14 hR => ?_
  obtain ⟨h0, rfl, hh0⟩ := hR
  obtain ⟨ph, rfl⟩ := Tm.invV hh0.rep
  intro r14
  refine call_read hap14 (eqTerm_spec _ (hh0.rep.mono (Mem.le_join _ _)) ((((hw8.mono hle12).mono hle13).mono hle14).mono (Mem.le_join _ _))) ?_
  refine if_intro (fun h => nomatch h) (fun _ => ?_)
  refine if_intro (fun h => absurd h (by simp)) (fun _ => ?_)
  refine call_read hap14 (heldTerm_spec _ (Owns.rep (l1 := [_, _]) hap14 ho11) (by omega) (by omega)) ?_
  refine ifd (fun h => by omega) (fun _ => ?_)
  refine ifnd (fun h => absurd rfl h) (fun _ => ?_)
  exact ret_plain rfl
end
end Go.Vx

/- Contracts: substitutions applied; which one is more general; unifiers. -/
namespace Go.Vx
open Go.Proofs Classical
/-! ### Plain -/
noncomputable def appl (l : List Bd) (t : Tm) : Option T := if substOk l ∧ t.Ok then fit (t.toT.subst (sub (l.map Bd.b))) else none
theorem fit_some {x y : T} : fit x = some y ↔ x.size ≤ 5000 ∧ x = y := by
  unfold fit
  split
  · rename_i h; exact ⟨fun k => ⟨h, Option.some.inj k⟩, fun k => by rw [k.2]⟩
  · rename_i h; exact ⟨fun k => (nomatch k), fun k => absurd k.1 h⟩
theorem fit_isSome (x : T) : (fit x).isSome = decide (x.size ≤ 5000) := by
  unfold fit
  split <;> simp_all
def mgen (bs bt : List B) : Prop := ∀ b ∈ bs, ∃ x, fit ((T.var b.var).subst (sub bt)) = some x ∧ fit (b.to.subst (sub bt)) = some x
def moreGen (l m : List Bd) : Prop := substOk l ∧ substOk m ∧ mgen (l.map Bd.b) (m.map Bd.b)
def unif (l : List Bd) (a b : Tm) : Prop := ∃ x, appl l a = some x ∧ appl l b = some x
theorem moreGen_iff (bs bt : List B) : moreGen (bs.map B.bd) (bt.map B.bd) ↔ Subst bs ∧ Subst bt ∧ mgen bs bt := by
  unfold moreGen
  rw [substOk_iff, substOk_iff, B.map_b, B.map_b]
section
variable {μ : Mem}
theorem spec_ApplySubst_spec {t : Tm} {l : List Bd} {v : Value} {base : Option Addr} {cap : Nat} (hsl : Sl μ 5 base l.length (l.map Bd.d)) (hwl : D.wds (l.map Bd.d)) (hv : RepV μ t.d v) (hw : t.d.wd) :
    Spec Try.prog 69 [.slice base l.length cap, v] μ fun v μ' => optV (fun y tv => RepV μ' y.tm.d tv) (appl l t) v := by
  obtain ⟨p, rfl⟩ := Tm.invV hv
  refine Spec.mk Try.func69 (by kernel_rfl) ?_
  intro r1 r2
  refine call_gives (spec_SubstOk_spec hsl hwl) ?_
  refine ifnd (fun h => ret_plain (by rw [appl, if_neg fun k => h k.1]; rfl)) (fun h1 => ?_)
  refine call_gives (spec_TermOk_spec t hv hw) ?_
  refine ifnd (fun h => ret_plain (by rw [appl, if_neg fun k => h k.2]; rfl)) (fun h2 => ?_)
  obtain ⟨x, _, rfl⟩ := h2.lift
  obtain ⟨bs, rfl, hbs⟩ := h1.subst
  rw [List.length_map] at hsl ⊢
  have e3 : appl (bs.map B.bd) x.tm = fit (x.subst (sub bs)) := by
    rw [appl, if_pos ⟨h1, h2⟩, T.toT_tm, B.map_b]
  rw [e3]
  refine call_plain (l04Apply_spec x hsl hv) fun v1 μ1 hle1 hR => ?_
  obtain ⟨tv, rfl, hR⟩ := hR
  obtain ⟨q, rfl⟩ := Tm.invV hR
  intro r3
  refine ifnd (fun h => ret_plain (by rw [fit, if_neg h]; rfl)) (fun h3 => ?_)
  refine call_plain (l02Copy_spec _ hR) fun v2 μ2 hle2 hR2 => ?_
  obtain ⟨q2, rfl⟩ := Tm.invV hR2
  refine ret_plain ?_
  rw [fit, if_pos h3]
  exact ⟨_, rfl, hR2⟩
theorem impl_ApplySubst_spec {t : Tm} {l : List Bd} {v : Value} {base : Option Addr} {cap : Nat} (hsl : Sl μ 5 base l.length (l.map Bd.d)) (hv : RepV μ t.d v) :
    Spec Try.prog 70 [.slice base l.length cap, v] μ fun v μ' => optV (fun y tv => Fresh μ μ' y.tm.d tv) (appl l t) v := by
  obtain ⟨p, rfl⟩ := Tm.invV hv
  refine Spec.mk Try.func70 (by kernel_rfl) ?_
  intro r1 r2
  refine call_gives (impl_SubstOk_spec hsl) ?_
  refine ifnd (fun h => ret_plain (by rw [appl, if_neg fun k => h k.1]; rfl)) (fun h1 => ?_)
  refine call_gives (impl_TermOk_spec t hv) ?_
  refine ifnd (fun h => ret_plain (by rw [appl, if_neg fun k => h k.2]; rfl)) (fun h2 => ?_)
  obtain ⟨x, _, rfl⟩ := h2.lift
  obtain ⟨bs, rfl, hbs⟩ := h1.subst
  rw [List.length_map] at hsl ⊢
  have hlen := hbs.vals.len
  have e3 : appl (bs.map B.bd) x.tm = fit (x.subst (sub bs)) := by
    rw [appl, if_pos ⟨h1, h2⟩, T.toT_tm, B.map_b]
  rw [e3]
  refine call_plain (put_spec x hbs.vals.srt (by omega) hbs.vals.tok hsl hv) fun v1 μ1 hle1 hR => ?_
  cases hf : fit (x.subst (sub bs)) with
  | some y =>
    rw [hf] at hR
    obtain ⟨tv, rfl, htv⟩ := hR
    obtain ⟨q, rfl⟩ := Tm.invV htv.rep
    exact ret_plain ⟨_, rfl, htv⟩
  | none =>
    rw [hf] at hR
    obtain rfl := hR
    exact ret_plain rfl
/-! ### One that is more general -/
theorem moreGeneral_spec {bs bt : List B} {base base2 : Option Addr} {cap cap2 : Nat} (hsl : Sl μ 5 base bs.length ((bs.map B.bd).map Bd.d)) (hsl2 : Sl μ 5 base2 bt.length ((bt.map B.bd).map Bd.d)) (hn : bs.length ≤ 1000000000) (ht : Vals bt) :
    Gives Try.prog 68 [.slice base bs.length cap, .slice base2 bt.length cap2] μ (.bool (decide (mgen bs bt))) := by
  have htl := ht.len
  refine Spec.forget (Spec.mk Try.func68 (by kernel_rfl) ?_)
  have good : mgen bs bt → Value.bool true = .bool (decide (mgen bs bt)) := isT
  refine loop_intro (fun p : Nat × Mem => p.1 ≤ bs.length ∧ μ.Le p.2 ∧ ∀ (j : Nat) b, j < p.1 → bs[j]? = some b → ∃ x, fit ((T.var b.var).subst (sub bt)) = some x ∧ fit (b.to.subst (sub bt)) = some x)
    (fun (i, μ') => ⟨[(1, .val (.slice base2 bt.length cap2)), (11, .val (.slice base bs.length cap)), (12, .val (.int .i64 bs.length)), (13, .val (.int .i64 i))], [], 0, μ', Mem.nil⟩) (fun p => bs.length - p.1)
    (0, μ) ⟨by simp, Mem.Le.refl μ, fun j b hj => by simp at hj⟩ (fun (_, _) => ⟨rfl, rfl⟩) ⟨⟨rfl, rfl, rfl, rfl, trivial⟩, trivial, rfl, rfl⟩ ?_
  rintro ⟨i, μ'⟩ ⟨hi, hle, hall⟩
  dsimp only at hi hle hall
  refine ifd (fun h => ?_) (fun h => ?_)
  rotate_left
  · obtain rfl : i = bs.length := by omega
    exact ret_plain (good fun b hb => by
      obtain ⟨j, hj⟩ := List.mem_iff_getElem?.1 hb
      exact hall j b (List.getElem?_eq_some_iff.1 hj).1 hj)
  obtain ⟨b, hb⟩ := at_some (l := bs) (i := i) (by omega)
  obtain ⟨ad, p, hel, hto⟩ := B.elem (hsl.mono hle) hb
  have hsl2' := hsl2.mono hle
  refine elem_intro hel ?_
  intro r
  have bad : (¬ ∃ x, fit ((T.var b.var).subst (sub bt)) = some x ∧ fit (b.to.subst (sub bt)) = some x) → Value.bool false = .bool (decide (mgen bs bt)) := fun k => isF fun hm => k (hm b (mem_at hb))
  refine call_gives (variable_spec _) ?_
  refine call_plain (put_spec (T.var b.var) ht.srt (by omega) ht.tok hsl2' (varV_rep _)) fun v1 μ1 hle1 hR1 => ?_
  obtain ⟨tv1, rfl, hf1⟩ := optV_fresh hR1
  obtain ⟨p1, rfl⟩ := Tm.invV hf1.rep
  intro r7
  refine call_plain (put_spec b.to ht.srt (by omega) ht.tok (hsl2'.mono hle1) (hto.mono hle1)) fun v2 μ2 hle2 hR2 => ?_
  obtain ⟨tv2, rfl, hf2⟩ := optV_fresh hR2
  obtain ⟨p2, rfl⟩ := Tm.invV hf2.rep
  intro r9
  cases e1 : fit ((T.var b.var).subst (sub bt)) with
  | none => exact if_intro (fun _ => ret_plain (bad fun ⟨x, k, _⟩ => by rw [e1] at k; cases k)) (fun h => nomatch h)
  | some x1 =>
    refine if_intro (fun h => nomatch h) (fun _ => ?_)
    cases e2 : fit (b.to.subst (sub bt)) with
    | none => exact if_intro (fun _ => ret_plain (bad fun ⟨x, _, k⟩ => by rw [e2] at k; cases k)) (fun h => nomatch h)
    | some x2 =>
      refine if_intro (fun h => nomatch h) (fun _ => ?_)
      rw [e1] at hf1
      rw [e2] at hf2
      refine call_gives (equalTerms_spec x1 x2 (hf1.rep.mono hle2) hf2.rep) ?_
      refine ifnd (fun h => ret_plain (bad fun ⟨x, k1, k2⟩ => by rw [e1] at k1; rw [e2] at k2; cases k1; cases k2; exact h rfl)) (fun h => ?_)
      subst h
      refine num64 (by omega) (by omega) ⟨(i + 1, μ2), ⟨by dsimp only; omega, (hle.trans hle1).trans hle2, fun j c hj hc => ?_⟩, by dsimp only; omega, ⟨⟨rfl, rfl, rfl, rfl, trivial⟩, trivial, rfl, rfl⟩⟩
      dsimp only at hj
      rcases Nat.lt_or_ge j i with h6 | h6
      · exact hall j c h6 hc
      · obtain rfl : j = i := by omega
        rw [hb] at hc; cases hc; exact ⟨_, e1, e2⟩
theorem impl_MoreGeneral_spec {l m : List Bd} {base base2 : Option Addr} {cap cap2 : Nat} (hsl : Sl μ 5 base l.length (l.map Bd.d)) (hsl2 : Sl μ 5 base2 m.length (m.map Bd.d)) :
    Gives Try.prog 35 [.slice base l.length cap, .slice base2 m.length cap2] μ (.bool (decide (moreGen l m))) := by
  refine Spec.mk Try.func35 (by kernel_rfl) ?_
  refine call_gives (impl_SubstOk_spec hsl) ?_
  refine ifd (fun h1 => ?_) (fun h1 => ret_gives (isF fun k => h1 k.1) rfl)
  refine call_gives (impl_SubstOk_spec hsl2) ?_
  refine ifd (fun h2 => ?_) (fun h2 => ret_gives (isF fun k => h2 k.2.1) rfl)
  obtain ⟨bs, rfl, hbs⟩ := h1.subst
  obtain ⟨bt, rfl, hbt⟩ := h2.subst
  rw [List.length_map] at hsl ⊢
  rw [List.length_map] at hsl2 ⊢
  have hlen := hbs.vals.len
  refine call_gives (moreGeneral_spec hsl hsl2 (by omega) hbt.vals) (ret_gives (isI ?_) rfl)
  rw [moreGen_iff]
  exact ⟨fun k => ⟨hbs, hbt, k⟩, fun k => k.2.2⟩
theorem spec_MoreGeneral_spec {l m : List Bd} {base base2 : Option Addr} {cap cap2 : Nat} (hsl : Sl μ 5 base l.length (l.map Bd.d)) (hw : D.wds (l.map Bd.d)) (hsl2 : Sl μ 5 base2 m.length (m.map Bd.d)) (hw2 : D.wds (m.map Bd.d)) :
    Gives Try.prog 34 [.slice base l.length cap, .slice base2 m.length cap2] μ (.bool (decide (moreGen l m))) := by
  refine Spec.forget (Spec.mk Try.func34 (by kernel_rfl) ?_)
  refine call_gives (spec_SubstOk_spec hsl hw) ?_
  refine ifnd (fun h => ret_plain (isF fun k => h k.1)) (fun h1 => ?_)
  refine call_gives (spec_SubstOk_spec hsl2 hw2) ?_
  refine ifnd (fun h => ret_plain (isF fun k => h k.2.1)) (fun h2 => ?_)
  obtain ⟨bs, rfl, hbs⟩ := h1.subst
  obtain ⟨bt, rfl, hbt⟩ := h2.subst
  rw [List.length_map] at hsl ⊢
  rw [List.length_map] at hsl2 ⊢
  have hn := hbs.vals.len
  have good : mgen bs bt → Value.bool true = .bool (decide (moreGen (bs.map B.bd) (bt.map B.bd))) := fun k => isT ((moreGen_iff bs bt).2 ⟨hbs, hbt, k⟩)
  refine loop_intro (fun p : Nat × Mem => p.1 ≤ bs.length ∧ μ.Le p.2 ∧ ∀ (j : Nat) b, j < p.1 → bs[j]? = some b → ∃ x, fit ((T.var b.var).subst (sub bt)) = some x ∧ fit (b.to.subst (sub bt)) = some x)
    (fun (i, μ') => ⟨[(1, .val (.slice base2 bt.length cap2)), (19, .val (.slice base bs.length cap)), (20, .val (.int .i64 bs.length)), (21, .val (.int .i64 i))], [], 0, μ', Mem.nil⟩) (fun p => bs.length - p.1)
    (0, μ) ⟨by simp, Mem.Le.refl μ, fun j b hj => by simp at hj⟩ (fun (_, _) => ⟨rfl, rfl⟩) ⟨⟨rfl, rfl, rfl, rfl, trivial⟩, trivial, rfl, rfl⟩ ?_
  rintro ⟨i, μ'⟩ ⟨hi, hle, hall⟩
  dsimp only at hi hle hall
  refine ifd (fun h => ?_) (fun h => ?_)
  rotate_left
  · obtain rfl : i = bs.length := by omega
    exact ret_plain (good fun b hb => by
      obtain ⟨j, hj⟩ := List.mem_iff_getElem?.1 hb
      exact hall j b (List.getElem?_eq_some_iff.1 hj).1 hj)
  obtain ⟨b, hb⟩ := at_some (l := bs) (i := i) (by omega)
  obtain ⟨ad, p, hel, hto⟩ := B.elem (hsl.mono hle) hb
  have hsl2' := hsl2.mono hle
  refine elem_intro hel ?_
  intro r
  have bad : (¬ ∃ x, fit ((T.var b.var).subst (sub bt)) = some x ∧ fit (b.to.subst (sub bt)) = some x) → Value.bool false = .bool (decide (moreGen (bs.map B.bd) (bt.map B.bd))) := fun k => isF fun hm => k (((moreGen_iff bs bt).1 hm).2.2 b (mem_at hb))
  refine call_gives (l02Var_spec _) ?_
  refine call_plain (l04Apply_spec (T.var b.var) hsl2' (varV_rep _)) fun v1 μ1 hle1 hR1 => ?_
  obtain ⟨tv1, rfl, hf1⟩ := hR1
  obtain ⟨p1, rfl⟩ := Tm.invV hf1
  intro r7
  refine call_plain (l04Apply_spec b.to (hsl2'.mono hle1) (hto.mono hle1)) fun v2 μ2 hle2 hR2 => ?_
  obtain ⟨tv2, rfl, hf2⟩ := hR2
  obtain ⟨p2, rfl⟩ := Tm.invV hf2
  intro r9
  refine ifnd (fun h => ret_plain (bad fun ⟨x, k, _⟩ => h (fit_some.1 k).1)) (fun h3 => ?_)
  refine ifnd (fun h => ret_plain (bad fun ⟨x, _, k⟩ => h (fit_some.1 k).1)) (fun h4 => ?_)
  refine call_gives (l02Same_spec _ _ (hf1.mono hle2) hf2) ?_
  refine ifnd (fun h => ret_plain (bad fun ⟨x, k1, k2⟩ => h ((fit_some.1 k1).2.trans (fit_some.1 k2).2.symm))) (fun h9 => ?_)
  refine num64 (by omega) (by omega) ⟨(i + 1, μ2), ⟨by dsimp only; omega, (hle.trans hle1).trans hle2, fun j c hj hc => ?_⟩, by dsimp only; omega, ⟨⟨rfl, rfl, rfl, rfl, trivial⟩, trivial, rfl, rfl⟩⟩
  dsimp only at hj
  rcases Nat.lt_or_ge j i with h6 | h6
  · exact hall j c h6 hc
  · obtain rfl : j = i := by omega
    rw [hb] at hc; cases hc; exact ⟨_, fit_some.2 ⟨h3, h9⟩, fit_some.2 ⟨h4, rfl⟩⟩
/-! ### Unifiers -/
theorem resTm_some (y : T) : resTm (some y) = y.tm := rfl
theorem impl_IsUnifier_spec {l : List Bd} {a b : Tm} {va vb : Value} {base : Option Addr} {cap : Nat} (hsl : Sl μ 5 base l.length (l.map Bd.d)) (ha : RepV μ a.d va) (hb : RepV μ b.d vb) :
    Gives Try.prog 37 [.slice base l.length cap, va, vb] μ (.bool (decide (unif l a b))) := by
    obtain ⟨qa, rfl⟩ := Tm.invV ha
    obtain ⟨qb, rfl⟩ := Tm.invV hb
    refine Spec.forget (Spec.mk Try.func37 (by kernel_rfl) ?_)
    intro r1 r2
    refine call_plain (impl_ApplySubst_spec hsl ha) fun v1 μ1 hle1 hR1 => ?_
    obtain ⟨tv1, rfl, hf1⟩ := optV_fresh hR1
    obtain ⟨p1, rfl⟩ := Tm.invV hf1.rep
    intro r7
    refine call_plain (impl_ApplySubst_spec (hsl.mono hle1) (hb.mono hle1)) fun v2 μ2 hle2 hR2 => ?_
    obtain ⟨tv2, rfl, hf2⟩ := optV_fresh hR2
    obtain ⟨p2, rfl⟩ := Tm.invV hf2.rep
    intro r9
    cases e1 : appl l a with
    | none => exact if_intro (fun h => nomatch h) (fun _ => ret_plain (isF fun ⟨x, k, _⟩ => by rw [e1] at k; cases k))
    | some x1 =>
      refine if_intro (fun _ => ?_) (fun h => nomatch h)
      cases e2 : appl l b with
      | none => exact if_intro (fun h => nomatch h) (fun _ => ret_plain (isF fun ⟨x, _, k⟩ => by rw [e2] at k; cases k))
      | some x2 =>
        refine if_intro (fun _ => ?_) (fun h => nomatch h)
        rw [e1] at hf1
        rw [e2] at hf2
        refine call_gives (equalTerms_spec x1 x2 (hf1.rep.mono hle2) hf2.rep) (ret_plain (isI ?_))
        unfold unif
        rw [e1, e2]
        constructor
        · rintro rfl; exact ⟨_, rfl, rfl⟩
        · rintro ⟨x, k1, k2⟩; cases k1; cases k2; rfl
theorem spec_IsUnifier_spec {l : List Bd} {a b : Tm} {va vb : Value} {base : Option Addr} {cap : Nat} (hsl : Sl μ 5 base l.length (l.map Bd.d)) (hw : D.wds (l.map Bd.d)) (ha : RepV μ a.d va) (hwa : a.d.wd) (hb : RepV μ b.d vb) (hwb : b.d.wd) :
    Gives Try.prog 36 [.slice base l.length cap, va, vb] μ (.bool (decide (unif l a b))) := by
    obtain ⟨qa, rfl⟩ := Tm.invV ha
    obtain ⟨qb, rfl⟩ := Tm.invV hb
    refine Spec.forget (Spec.mk Try.func36 (by kernel_rfl) ?_)
    intro r1 r2
    refine call_plain (spec_ApplySubst_spec hsl hw ha hwa) fun v1 μ1 hle1 hR1 => ?_
    obtain ⟨tv1, rfl, hf1⟩ := optV_rep hR1
    obtain ⟨p1, rfl⟩ := Tm.invV hf1
    intro r7
    refine call_plain (spec_ApplySubst_spec (hsl.mono hle1) hw (hb.mono hle1) hwb) fun v2 μ2 hle2 hR2 => ?_
    obtain ⟨tv2, rfl, hf2⟩ := optV_rep hR2
    obtain ⟨p2, rfl⟩ := Tm.invV hf2
    intro r9
    cases e1 : appl l a with
    | none => exact if_intro (fun h => nomatch h) (fun _ => ret_plain (isF fun ⟨x, k, _⟩ => by rw [e1] at k; cases k))
    | some x1 =>
      refine if_intro (fun _ => ?_) (fun h => nomatch h)
      cases e2 : appl l b with
      | none => exact if_intro (fun h => nomatch h) (fun _ => ret_plain (isF fun ⟨x, _, k⟩ => by rw [e2] at k; cases k))
      | some x2 =>
        refine if_intro (fun _ => ?_) (fun h => nomatch h)
        rw [e1] at hf1
        rw [e2] at hf2
        refine call_gives (l02Same_spec x1 x2 (hf1.mono hle2) hf2) (ret_plain (isI ?_))
        unfold unif
        rw [e1, e2]
        constructor
        · rintro rfl; exact ⟨_, rfl, rfl⟩
        · rintro ⟨x, k1, k2⟩; cases k1; cases k2; rfl
end
end Go.Vx

/- The laws on substitutions whose answer is yes or no. -/
namespace Go.Vx
open Go.Proofs Classical
section
variable {μ : Mem}
theorem FnExactMoreGeneral_spec {t0 : List Bd} {v0 : Value} {t1 : List Bd} {v1 : Value} (h0 : RepV μ (.sl 5 (t0.map Bd.d)) v0) (h1 : RepV μ (.sl 5 (t1.map Bd.d)) v1) (w0 : D.wds (t0.map Bd.d)) (w1 : D.wds (t1.map Bd.d)) :
    Spec Try.prog 7 [v0, v1] μ fun r _ => r = .bool true := by
  obtain ⟨b0, c0, rfl, s0⟩ := Rep.sl h0
  rw [List.length_map] at s0 ⊢
  obtain ⟨b1, c1, rfl, s1⟩ := Rep.sl h1
  rw [List.length_map] at s1 ⊢
  refine Spec.mk Try.func7 (by kernel_rfl) ?_
  refine call_gives (szBindingS_spec s0 (by omega) (by omega) w0) ?_
  refine ifd (fun h => ret_plain rfl) (fun h => ?_)
  have q0 := szR_ge h
  rw [szR_pos q0] at h ⊢
  refine call_gives (szBindingS_spec s1 (by omega) (by omega) w1) ?_
  refine ifd (fun h => ret_plain rfl) (fun h => ?_)
  have q1 := szR_ge h
  rw [szR_pos q1] at h
  have hb0 : t0.length + D.szs (t0.map Bd.d) ≤ 1048576 := by omega
  have hb1 : t1.length + D.szs (t1.map Bd.d) ≤ 1048576 := by omega
  refine call_plain (toBindingS_spec s0 hb0) fun u1 μ1 hle1 hf1 => ?_
  replace s0 := s0.mono hle1
  replace s1 := s1.mono hle1
  obtain ⟨bb1, cc1, rfl, a0⟩ := Rep.sl hf1.rep
  rw [List.length_map] at a0 ⊢
  refine call_plain (toBindingS_spec s1 hb1) fun u2 μ2 hle2 hf2 => ?_
  replace s0 := s0.mono hle2
  replace s1 := s1.mono hle2
  replace a0 := a0.mono hle2
  obtain ⟨bb2, cc2, rfl, a1⟩ := Rep.sl hf2.rep
  rw [List.length_map] at a1 ⊢
  refine call_gives (spec_MoreGeneral_spec a0 w0 a1 w1) ?_
  refine call_plain (toBindingS_spec s0 hb0) fun u3 μ3 hle3 hf3 => ?_
  replace s0 := s0.mono hle3
  replace s1 := s1.mono hle3
  replace a0 := a0.mono hle3
  replace a1 := a1.mono hle3
  obtain ⟨bb3, cc3, rfl, x0⟩ := Rep.sl hf3.rep
  rw [List.length_map] at x0 ⊢
  refine call_plain (toBindingS_spec s1 hb1) fun u4 μ4 hle4 hf4 => ?_
  replace s0 := s0.mono hle4
  replace s1 := s1.mono hle4
  replace a0 := a0.mono hle4
  replace a1 := a1.mono hle4
  replace x0 := x0.mono hle4
  obtain ⟨bb4, cc4, rfl, x1⟩ := Rep.sl hf4.rep
  rw [List.length_map] at x1 ⊢
  refine call_gives (impl_MoreGeneral_spec x0 x1) ?_
  refine if_intro (fun h => absurd h (by simp)) (fun _ => ?_)
  refine call_plain (toBindingS_spec s0 hb0) fun u5 μ5 hle5 hf5 => ?_
  replace s0 := s0.mono hle5
  replace s1 := s1.mono hle5
  replace a0 := a0.mono hle5
  replace a1 := a1.mono hle5
  replace x0 := x0.mono hle5
  replace x1 := x1.mono hle5
  obtain ⟨bb5, cc5, rfl, y0⟩ := Rep.sl hf5.rep
  rw [List.length_map] at y0 ⊢
  refine call_gives (eqBindingS_spec x0 y0) ?_
  refine if_intro (fun h => nomatch h) (fun _ => ?_)
  refine call_plain (toBindingS_spec s1 hb1) fun u6 μ6 hle6 hf6 => ?_
  replace s0 := s0.mono hle6
  replace s1 := s1.mono hle6
  replace a0 := a0.mono hle6
  replace a1 := a1.mono hle6
  replace x0 := x0.mono hle6
  replace x1 := x1.mono hle6
  obtain ⟨bb6, cc6, rfl, y1⟩ := Rep.sl hf6.rep
  rw [List.length_map] at y1 ⊢
  refine call_gives (eqBindingS_spec x1 y1) ?_
  refine if_intro (fun h => nomatch h) (fun _ => ?_)
  exact ret_plain rfl
theorem FnExactIsUnifier_spec {t0 : List Bd} {v0 : Value} {t1 : Tm} {v1 : Value} {t2 : Tm} {v2 : Value} (h0 : RepV μ (.sl 5 (t0.map Bd.d)) v0) (h1 : RepV μ t1.d v1) (h2 : RepV μ t2.d v2) (w0 : D.wds (t0.map Bd.d)) (w1 : t1.d.wd) (w2 : t2.d.wd) :
    Spec Try.prog 8 [v0, v1, v2] μ fun r _ => r = .bool true := by
  obtain ⟨b0, c0, rfl, s0⟩ := Rep.sl h0
  rw [List.length_map] at s0 ⊢
  obtain ⟨p1, rfl⟩ := Tm.invV h1
  obtain ⟨p2, rfl⟩ := Tm.invV h2
  refine Spec.mk Try.func8 (by kernel_rfl) ?_
  intro r0 r1
  refine call_gives (szBindingS_spec s0 (by omega) (by omega) w0) ?_
  refine ifd (fun h => ret_plain rfl) (fun h => ?_)
  have q0 := szR_ge h
  rw [szR_pos q0] at h ⊢
  refine call_gives (szTerm_spec t1 h1 (by omega) (by omega) w1) ?_
  refine ifd (fun h => ret_plain rfl) (fun h => ?_)
  have q1 := szR_ge h
  rw [szR_pos q1] at h ⊢
  refine call_gives (szTerm_spec t2 h2 (by omega) (by omega) w2) ?_
  refine ifd (fun h => ret_plain rfl) (fun h => ?_)
  have q2 := szR_ge h
  rw [szR_pos q2] at h
  have hb0 : t0.length + D.szs (t0.map Bd.d) ≤ 1048576 := by omega
  have hb1 : t1.d.sz ≤ 1048576 := by omega
  have hb2 : t2.d.sz ≤ 1048576 := by omega
  refine call_plain (toBindingS_spec s0 hb0) fun u1 μ1 hle1 hf1 => ?_
  replace s0 := s0.mono hle1
  replace h1 := h1.mono hle1
  replace h2 := h2.mono hle1
  obtain ⟨bb1, cc1, rfl, a0⟩ := Rep.sl hf1.rep
  rw [List.length_map] at a0 ⊢
  refine call_plain (toTerm_spec t1 h1 hb1) fun u2 μ2 hle2 hf2 => ?_
  replace s0 := s0.mono hle2
  replace h1 := h1.mono hle2
  replace h2 := h2.mono hle2
  replace a0 := a0.mono hle2
  obtain ⟨qq2, rfl⟩ := Tm.invV hf2.rep
  have a1 := hf2.rep
  refine call_plain (toTerm_spec t2 h2 hb2) fun u3 μ3 hle3 hf3 => ?_
  replace s0 := s0.mono hle3
  replace h1 := h1.mono hle3
  replace h2 := h2.mono hle3
  replace a0 := a0.mono hle3
  replace a1 := a1.mono hle3
  obtain ⟨qq3, rfl⟩ := Tm.invV hf3.rep
  have a2 := hf3.rep
  refine call_gives (spec_IsUnifier_spec a0 w0 a1 w1 a2 w2) ?_
  refine call_plain (toBindingS_spec s0 hb0) fun u4 μ4 hle4 hf4 => ?_
  replace s0 := s0.mono hle4
  replace h1 := h1.mono hle4
  replace h2 := h2.mono hle4
  replace a0 := a0.mono hle4
  replace a1 := a1.mono hle4
  replace a2 := a2.mono hle4
  obtain ⟨bb4, cc4, rfl, x0⟩ := Rep.sl hf4.rep
  rw [List.length_map] at x0 ⊢
  refine call_plain (toTerm_spec t1 h1 hb1) fun u5 μ5 hle5 hf5 => ?_
  replace s0 := s0.mono hle5
  replace h1 := h1.mono hle5
  replace h2 := h2.mono hle5
  replace a0 := a0.mono hle5
  replace a1 := a1.mono hle5
  replace a2 := a2.mono hle5
  replace x0 := x0.mono hle5
  obtain ⟨qq5, rfl⟩ := Tm.invV hf5.rep
  have x1 := hf5.rep
  intro rx1
  refine call_plain (toTerm_spec t2 h2 hb2) fun u6 μ6 hle6 hf6 => ?_
  replace s0 := s0.mono hle6
  replace h1 := h1.mono hle6
  replace h2 := h2.mono hle6
  replace a0 := a0.mono hle6
  replace a1 := a1.mono hle6
  replace a2 := a2.mono hle6
  replace x0 := x0.mono hle6
  replace x1 := x1.mono hle6
  obtain ⟨qq6, rfl⟩ := Tm.invV hf6.rep
  have x2 := hf6.rep
  intro rx2
  refine call_gives (impl_IsUnifier_spec x0 x1 x2) ?_
  refine if_intro (fun h => absurd h (by simp)) (fun _ => ?_)
  refine call_plain (toBindingS_spec s0 hb0) fun u7 μ7 hle7 hf7 => ?_
  replace s0 := s0.mono hle7
  replace h1 := h1.mono hle7
  replace h2 := h2.mono hle7
  replace a0 := a0.mono hle7
  replace a1 := a1.mono hle7
  replace a2 := a2.mono hle7
  replace x0 := x0.mono hle7
  replace x1 := x1.mono hle7
  replace x2 := x2.mono hle7
  obtain ⟨bb7, cc7, rfl, y0⟩ := Rep.sl hf7.rep
  rw [List.length_map] at y0 ⊢
  refine call_gives (eqBindingS_spec x0 y0) ?_
  refine if_intro (fun h => nomatch h) (fun _ => ?_)
  refine call_plain (toTerm_spec t1 h1 hb1) fun u8 μ8 hle8 hf8 => ?_
  replace s0 := s0.mono hle8
  replace h1 := h1.mono hle8
  replace h2 := h2.mono hle8
  replace a0 := a0.mono hle8
  replace a1 := a1.mono hle8
  replace a2 := a2.mono hle8
  replace x0 := x0.mono hle8
  replace x1 := x1.mono hle8
  replace x2 := x2.mono hle8
  obtain ⟨qq8, rfl⟩ := Tm.invV hf8.rep
  have y1 := hf8.rep
  refine call_gives (eqTerm_spec _ x1 y1) ?_
  refine if_intro (fun h => nomatch h) (fun _ => ?_)
  refine call_plain (toTerm_spec t2 h2 hb2) fun u9 μ9 hle9 hf9 => ?_
  replace s0 := s0.mono hle9
  replace h1 := h1.mono hle9
  replace h2 := h2.mono hle9
  replace a0 := a0.mono hle9
  replace a1 := a1.mono hle9
  replace a2 := a2.mono hle9
  replace x0 := x0.mono hle9
  replace x1 := x1.mono hle9
  replace x2 := x2.mono hle9
  obtain ⟨qq9, rfl⟩ := Tm.invV hf9.rep
  have y2 := hf9.rep
  refine call_gives (eqTerm_spec _ x2 y2) ?_
  refine if_intro (fun h => nomatch h) (fun _ => ?_)
  exact ret_plain rfl
end
end Go.Vx
