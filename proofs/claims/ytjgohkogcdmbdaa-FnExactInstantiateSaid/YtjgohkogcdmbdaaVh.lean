/- Contracts: the laws' own functions on terms and bindings: sizes, copies, equality. -/
import Derived.Test.YtjgohkogcdmbdaaVc
import Derived.Test.YtjgohkogcdmbdaaVxZ
namespace Go.Vx
open Go.Proofs Classical
/-! ### Terms -/
inductive Tm where
  | mk (kind num : Int) (name : ByteArray) (args : List Tm)
theorem Tm.ind {p : Tm → Prop} (h : ∀ k n s l, (∀ t ∈ l, p t) → p (.mk k n s l)) : ∀ t, p t
  | .mk k n s l => h k n s l fun t _ => Tm.ind h t
mutual
def Tm.d : Tm → D
  | .mk k n s l => .st [.i k, .i n, .s s, .sl 4 (Tm.ds l)]
def Tm.ds : List Tm → List D
  | [] => []
  | t :: r => t.d :: Tm.ds r
end
theorem Tm.ds_map : ∀ l : List Tm, Tm.ds l = l.map Tm.d
  | [] => rfl
  | t :: r => by simp [Tm.ds, Tm.ds_map r]
theorem Tm.d_mk (k n : Int) (s : ByteArray) (l : List Tm) : (Tm.mk k n s l).d = .st [.i k, .i n, .s s, .sl 4 (l.map Tm.d)] := by rw [Tm.d, Tm.ds_map]
theorem Tm.d_n (t : Tm) : t.d.n = 4 := by cases t; rfl
def Tm.kind : Tm → Int | .mk k _ _ _ => k
def Tm.num : Tm → Int | .mk _ n _ _ => n
def Tm.name : Tm → ByteArray | .mk _ _ s _ => s
def Tm.args : Tm → List Tm | .mk _ _ _ l => l
/-- The cells of a term. -/
def Tm.cs (t : Tm) (p : Option Addr × Nat) : List Value := [.int .i64 t.kind, .int .i64 t.num, .string t.name, .slice p.1 t.args.length p.2]
section
variable {μ : Mem}
theorem Tm.invS {k n : Int} {s : ByteArray} {l : List Tm} {cs : List Value} (h : Rep μ (Tm.mk k n s l).d cs) : ∃ base cap, cs = [.int .i64 k, .int .i64 n, .string s, .slice base l.length cap] ∧ Sl μ 4 base l.length (l.map Tm.d) := by
  rw [Tm.d_mk] at h
  obtain ⟨c1, c2, rfl, rfl, c3, c4, rfl, rfl, c5, c6, rfl, rfl, c7, c8, rfl, h4, rfl⟩ := h
  have hl := Rep.len _ _ h4
  match c7, hl with
  | [v], _ =>
    obtain ⟨base, cap, rfl, hsl⟩ := h4.sl
    rw [List.length_map] at hsl
    exact ⟨base, cap, by simp, hsl⟩
theorem Tm.inv {k n : Int} {s : ByteArray} {l : List Tm} {v : Value} (h : RepV μ (Tm.mk k n s l).d v) : ∃ base cap, v = .agg #[.int .i64 k, .int .i64 n, .string s, .slice base l.length cap] ∧ Sl μ 4 base l.length (l.map Tm.d) := by
  have h' : ∃ cs, v = .agg (List.toArray cs) ∧ Rep μ (Tm.mk k n s l).d cs := by rw [Tm.d_mk] at h ⊢; exact h
  obtain ⟨cs, e, h2⟩ := h'
  obtain ⟨base, cap, e2, hsl⟩ := Tm.invS h2
  exact ⟨base, cap, by rw [e, e2], hsl⟩
theorem Tm.rep {t : Tm} {cs : List Value} (h : Rep μ t.d cs) : RepV μ t.d (.agg cs.toArray) := by
  cases t; rw [Tm.d_mk] at h ⊢; exact ⟨cs, rfl, h⟩
theorem Tm.invV {t : Tm} {v : Value} (h : RepV μ t.d v) : ∃ p : Option Addr × Nat, v = .agg #[.int .i64 t.kind, .int .i64 t.num, .string t.name, .slice p.1 t.args.length p.2] := by
  cases t; obtain ⟨b, c, h, _⟩ := Tm.inv h; exact ⟨(b, c), h⟩
/-- An element of a slice of terms. -/
theorem Tm.elem {l : List Tm} {base : Option Addr} {n : Nat} (h : Sl μ 4 base n (l.map Tm.d)) {i : Nat} {t : Tm} (ht : l[i]? = some t) : ∃ ad, ∃ p : Option Addr × Nat, ElemAt μ base n 4 i ad (t.cs p) ∧ RepV μ t.d (.agg (t.cs p).toArray) := by
  obtain ⟨ad, cs, h1, h2⟩ := h.get i t.d (by simp [ht])
  have h3 := Tm.rep h2
  cases t with
  | mk k n s l =>
    obtain ⟨b, c, rfl, hsl⟩ := Tm.invS h2
    exact ⟨ad, (b, c), h1, h3⟩
theorem szTermS_of {l : List Tm} (he : ∀ t ∈ l, ∀ {v : Value} {left : Int}, RepV μ t.d v → 0 ≤ left → left ≤ 1048576 → t.d.wd → Gives Try.prog 23 [v, .int .i64 left] μ (.int .i64 (szR left t.d.sz)))
    {base : Option Addr} {cap : Nat} {left : Int} (hsl : Sl μ 4 base l.length (l.map Tm.d)) (hl : 0 ≤ left) (hl2 : left ≤ 1048576) (hw : D.wds (l.map Tm.d)) :
    Gives Try.prog 18 [.slice base l.length cap, .int .i64 left] μ (.int .i64 (szR left (l.length + D.szs (l.map Tm.d)))) := by
  have hn := maxLen_le hsl.max
  refine Spec.mk Try.func18 (by kernel_rfl) ?_
  refine num64 (by omega) (by omega) (ifd (fun h => ret_gives ?_ rfl) (fun h => ?_))
  · rw [szR_neg (by omega)]
  refine loop_intro (fun i : Nat => i ≤ l.length ∧ (D.szs ((l.map Tm.d).take i) : Int) ≤ left - l.length) (fun i => ⟨[(0, .val (.slice base l.length cap)), (1, .val (.int .i64 (left - l.length - D.szs ((l.map Tm.d).take i)))), (5, .val (.int .i64 i))], [], 0, μ, Mem.nil⟩) (fun i => l.length - i)
    0 ⟨by omega, by simp [D.szs]; omega⟩ (fun i => ⟨rfl, rfl⟩) ⟨⟨rfl, by show some (SV.val (.int .i64 _)) = some (SV.val (.int .i64 _)); congr 3; simp [D.szs], rfl, trivial⟩, trivial, rfl, rfl⟩ ?_
  rintro i ⟨hi, hz⟩
  refine ifd (fun h => ?_) (fun h => ?_)
  · obtain ⟨t, ht⟩ := at_some (l := l) (i := i) (by omega)
    have hx := at_map (f := Tm.d) ht
    have hs := D.szs_take hx
    have hs' := D.szs_le (l.map Tm.d) (i + 1)
    obtain ⟨ad, p, hel, hr⟩ := Tm.elem hsl ht
    refine elem_intro hel (call_gives (he t (mem_at ht) hr (by omega) (by omega) (D.wds_mem hw _ (mem_at hx))) ?_)
    refine ifd (fun h => ret_gives ?_ rfl) (fun h => ?_)
    · have := szR_lt h
      rw [szR_neg (by omega)]
    · have := szR_ge h
      refine num64 (by omega) (by omega) ⟨i + 1, ⟨by omega, by omega⟩, by omega, ⟨⟨rfl, ?_, rfl, trivial⟩, trivial, rfl, rfl⟩⟩
      rw [szR_pos this, hs]
      show some (SV.val (.int .i64 _)) = some (SV.val (.int .i64 _))
      congr 3; omega
  · obtain rfl : i = l.length := by omega
    rw [List.take_of_length_le (by simp)] at hz ⊢
    refine ret_gives ?_ rfl
    rw [szR_pos (by omega)]; congr 1; omega
theorem szTerm_spec : ∀ (t : Tm) {v : Value} {left : Int}, RepV μ t.d v → 0 ≤ left → left ≤ 1048576 → t.d.wd → Gives Try.prog 23 [v, .int .i64 left] μ (.int .i64 (szR left t.d.sz)) :=
  Tm.ind fun k n s l ih v left hv hl hl2 hw => by
    obtain ⟨base, cap, rfl, hsl⟩ := Tm.inv hv
    have hd := Tm.d_mk k n s l
    have hsz : (Tm.mk k n s l).d.sz = s.size + (l.length + D.szs (l.map Tm.d)) := by rw [hd]; simp [D.sz, D.szs]
    rw [hd] at hw
    have h1 : s.size ≤ maxLen := hw.2.2.1
    have h1 := maxLen_le h1
    refine Spec.mk Try.func23 (by kernel_rfl) ?_
    intro r
    refine num64 (by omega) (by omega) (ifd (fun h => ret_gives ?_ rfl) (fun h => ?_))
    · rw [szR_neg (by omega)]
    refine call_gives (szTermS_of (l := l) (fun t ht _ _ => ih t ht) hsl (by omega) (by omega) hw.2.2.2.1) ?_
    refine ifd (fun h => ret_gives ?_ rfl) (fun h => ret_gives ?_ rfl)
    · have := szR_lt h
      rw [szR_neg (by omega)]
    · have := szR_ge h
      rw [szR_pos this, szR_pos (by omega)]
      congr 1; omega
theorem szTermS_spec {l : List Tm} {base : Option Addr} {cap : Nat} {left : Int} (hsl : Sl μ 4 base l.length (l.map Tm.d)) (hl : 0 ≤ left) (hl2 : left ≤ 1048576) (hw : D.wds (l.map Tm.d)) :
    Gives Try.prog 18 [.slice base l.length cap, .int .i64 left] μ (.int .i64 (szR left (l.length + D.szs (l.map Tm.d)))) := szTermS_of (fun t _ _ _ => szTerm_spec t) hsl hl hl2 hw
/-! ### Copies -/
theorem toTermS_of {l : List Tm} (he : ∀ t ∈ l, ∀ {μ : Mem} {v : Value}, RepV μ t.d v → t.d.sz ≤ 1048576 → Spec Try.prog 26 [v] μ fun v μ' => Fresh μ μ' t.d v)
    {base : Option Addr} {cap : Nat} (hsl : Sl μ 4 base l.length (l.map Tm.d)) (hb : l.length + D.szs (l.map Tm.d) ≤ 1048576) :
    Spec Try.prog 20 [.slice base l.length cap] μ fun v μ' => Fresh μ μ' (.sl 4 (l.map Tm.d)) v := by
  refine Spec.mk Try.func20 (by kernel_rfl) ?_
  refine make_intro l.length rfl rfl (by simp only; omega) (Nat.le_trans (m := 1048576) (by omega) (by decide)) ?_
  intro r
  refine loop_intro (fun p : Nat × List Value × Mem => μ.Le p.2.2 ∧ ∃ g, Filled 4 (.agg #[.int .i64 0, .int .i64 0, .string ⟨#[]⟩, .slice none 0 0]) μ p.2.2 (l.map Tm.d) p.1 p.2.1 g)
    (fun (i, xs, μ') => ⟨[(0, .val (.slice base l.length cap)), (3, .row 0 (some r) l.length l.length), (4, .val (.int .i64 i))], [(0, some (.row (some r) l.length 50 4 xs))], 1, μ', Mem.nil⟩) (fun p => l.length - p.1)
    (0, List.replicate l.length (.agg #[.int .i64 0, .int .i64 0, .string ⟨#[]⟩, .slice none 0 0]), μ) ⟨Mem.Le.refl μ, _, Filled.start (by simp)⟩ (fun (_, _, _) => ⟨rfl, rfl⟩) ⟨⟨rfl, rfl, rfl, trivial⟩, ⟨rfl, trivial⟩, rfl, rfl⟩ ?_
  rintro ⟨i, xs, μ'⟩ ⟨hle, g, hf⟩
  dsimp only at hle hf
  have hi := hf.le
  have hlen := hf.len
  rw [List.length_map] at hi hlen
  refine ifd (fun h => ?_) (fun h => ?_)
  · obtain ⟨t, ht⟩ := at_some (l := l) (i := i) (by omega)
    have hx := at_map (f := Tm.d) ht
    have hs := D.szs_mem hx
    obtain ⟨ad, p, hel, hr⟩ := Tm.elem (hsl.mono hle) ht
    refine elem_intro hel (call_plain (he t (mem_at ht) hr (by omega)) fun v μ'' hle2 hfr => ?_)
    obtain ⟨g', hf'⟩ := hf.step hx (Tm.d_n t) hfr hle2
    obtain ⟨p2, rfl⟩ := Tm.invV hfr.rep
    refine rel_intro i rfl (by omega) ?_
    refine get_intro _ (hf.rest i (by omega) (by simpa using h)) ?_
    refine num64 (by omega) (by omega) ⟨(i + 1, _, μ''), ⟨hle.trans hle2, g', hf'⟩, by dsimp only; omega, ⟨⟨rfl, rfl, rfl, trivial⟩, ⟨rfl, trivial⟩, rfl, rfl⟩⟩
  · obtain rfl : i = l.length := by omega
    refine ret_frz [0] fun μ2 hle2 hno hrow => .inl ?_
    have := Fresh.ofRow (hf.all (by simp)) hf.sub hf.new hle hle2 hno hrow (Nat.le_trans (m := 1048576) (by omega) (by decide))
    rw [hlen] at this
    exact this
theorem toTerm_spec : ∀ (t : Tm) {μ : Mem} {v : Value}, RepV μ t.d v → t.d.sz ≤ 1048576 → Spec Try.prog 26 [v] μ fun v μ' => Fresh μ μ' t.d v :=
  Tm.ind fun k n s l ih μ v hv hb => by
    obtain ⟨base, cap, rfl, hsl⟩ := Tm.inv hv
    have hd := Tm.d_mk k n s l
    have hsz : (Tm.mk k n s l).d.sz = s.size + (l.length + D.szs (l.map Tm.d)) := by rw [hd]; simp [D.sz, D.szs]
    refine Spec.mk Try.func26 (by kernel_rfl) ?_
    intro r1 r2 r3
    refine call_plain (toTermS_of (l := l) (fun t ht _ _ => ih t ht) hsl (by omega)) fun v μ' hle hf => ?_
    obtain ⟨h, h1, h2, h3⟩ := hf
    obtain ⟨base', cap', rfl⟩ := OwnV.slice h1
    rw [hd]
    exact ret_plain ⟨h, ⟨_, rfl, OwnS.int (OwnS.int (OwnS.str (OwnS.last h1)))⟩, h2, h3⟩
theorem toTermS_spec {l : List Tm} {base : Option Addr} {cap : Nat} (hsl : Sl μ 4 base l.length (l.map Tm.d)) (hb : l.length + D.szs (l.map Tm.d) ≤ 1048576) :
    Spec Try.prog 20 [.slice base l.length cap] μ fun v μ' => Fresh μ μ' (.sl 4 (l.map Tm.d)) v := toTermS_of (fun t _ _ _ => toTerm_spec t) hsl hb
/-! ### Equality -/
theorem eqTermS_of {l : List Tm} (he : ∀ t ∈ l, ∀ {v v' : Value}, RepV μ t.d v → RepV μ t.d v' → Gives Try.prog 29 [v, v'] μ (.bool true))
    {base base' : Option Addr} {cap cap' : Nat} (hl : Sl μ 4 base l.length (l.map Tm.d)) (hl' : Sl μ 4 base' l.length (l.map Tm.d)) :
    Gives Try.prog 22 [.slice base l.length cap, .slice base' l.length cap'] μ (.bool true) := by
  have hn := maxLen_le hl.max
  refine Spec.mk Try.func22 (by kernel_rfl) ?_
  refine ifnd (fun h => absurd rfl h) (fun _ => ?_)
  refine loop_intro (fun i : Nat => i ≤ l.length) (fun i => ⟨[(0, .val (.slice base l.length cap)), (1, .val (.slice base' l.length cap')), (5, .val (.int .i64 i))], [], 0, μ, Mem.nil⟩) (fun i => l.length - i)
    0 (by omega) (fun i => ⟨rfl, rfl⟩) ⟨⟨rfl, rfl, rfl, trivial⟩, trivial, rfl, rfl⟩ ?_
  intro i hi
  refine ifd (fun h => ?_) (fun h => ?_)
  · obtain ⟨t, ht⟩ := at_some (l := l) (i := i) (by omega)
    obtain ⟨ad, p, hel, hr⟩ := Tm.elem hl ht
    obtain ⟨ad', p', hel', hr'⟩ := Tm.elem hl' ht
    refine elem_intro hel (elem_intro hel' (call_gives (he t (mem_at ht) hr hr') ?_))
    refine if_intro (fun h => nomatch h) (fun _ => ?_)
    exact num64 (by omega) (by omega) ⟨i + 1, by omega, by omega, ⟨⟨rfl, rfl, rfl, trivial⟩, trivial, rfl, rfl⟩⟩
  · exact ret_gives rfl rfl
theorem eqTerm_spec : ∀ (t : Tm) {v v' : Value}, RepV μ t.d v → RepV μ t.d v' → Gives Try.prog 29 [v, v'] μ (.bool true) :=
  Tm.ind fun k n s l ih v v' hv hv' => by
    obtain ⟨base, cap, rfl, hsl⟩ := Tm.inv hv
    obtain ⟨base', cap', rfl, hsl'⟩ := Tm.inv hv'
    refine Spec.mk Try.func29 (by kernel_rfl) ?_
    intro r1 r2
    repeat' (first
      | refine ifnd (fun h => absurd rfl h) (fun _ => ?_)
      | refine call_gives (eqTermS_of (l := l) (fun t ht _ _ => ih t ht) hsl hsl') ?_
      | refine if_intro (fun h => nomatch h) (fun _ => ?_))
    exact ret_gives rfl rfl
theorem eqTermS_spec {l : List Tm} {base base' : Option Addr} {cap cap' : Nat} (hl : Sl μ 4 base l.length (l.map Tm.d)) (hl' : Sl μ 4 base' l.length (l.map Tm.d)) :
    Gives Try.prog 22 [.slice base l.length cap, .slice base' l.length cap'] μ (.bool true) := eqTermS_of (fun t _ _ _ => eqTerm_spec t) hl hl'
end
end Go.Vx
