/- Contracts: the laws' own functions on bindings: sizes, copies, equality. -/
import Derived.Test.YtjgohkogcdmbdaaVh
namespace Go.Vx
open Go.Proofs Classical
structure Bd where
  var : Int
  to : Tm
def Bd.d (b : Bd) : D := .st [.i b.var, b.to.d]
theorem Bd.d_n (b : Bd) : b.d.n = 5 := by
  have := Tm.d_n b.to
  simp only [Bd.d, D.n, D.ns, this]
def Bd.cs (b : Bd) (p : Option Addr × Nat) : List Value := [.int .i64 b.var, .int .i64 b.to.kind, .int .i64 b.to.num, .string b.to.name, .slice p.1 b.to.args.length p.2]
section
variable {μ : Mem}
theorem Tm.invC {t : Tm} {cs : List Value} (h : Rep μ t.d cs) : ∃ p : Option Addr × Nat, cs = t.cs p := by
  cases t
  obtain ⟨b, c, h, _⟩ := Tm.invS h
  exact ⟨(b, c), h⟩
theorem Bd.invS {b : Bd} {cs : List Value} (h : Rep μ b.d cs) : ∃ p : Option Addr × Nat, cs = b.cs p ∧ RepV μ b.to.d (.agg (b.to.cs p).toArray) := by
  obtain ⟨c1, c2, rfl, rfl, c3, c4, rfl, h3, rfl⟩ := h
  obtain ⟨p, rfl⟩ := Tm.invC h3
  exact ⟨p, by simp [Bd.cs, Tm.cs], Tm.rep h3⟩
theorem Bd.inv {b : Bd} {v : Value} (h : RepV μ b.d v) : ∃ p : Option Addr × Nat, v = .agg #[.int .i64 b.var, .int .i64 b.to.kind, .int .i64 b.to.num, .string b.to.name, .slice p.1 b.to.args.length p.2] ∧ RepV μ b.to.d (.agg (b.to.cs p).toArray) := by
  obtain ⟨cs, rfl, h⟩ := h
  obtain ⟨p, rfl, h2⟩ := Bd.invS (b := b) h
  exact ⟨p, rfl, h2⟩
theorem Bd.invV {b : Bd} {v : Value} (h : RepV μ b.d v) : ∃ p : Option Addr × Nat, v = .agg #[.int .i64 b.var, .int .i64 b.to.kind, .int .i64 b.to.num, .string b.to.name, .slice p.1 b.to.args.length p.2] := by
  obtain ⟨p, h, _⟩ := Bd.inv h
  exact ⟨p, h⟩
theorem Bd.elem {l : List Bd} {base : Option Addr} {n : Nat} (h : Sl μ 5 base n (l.map Bd.d)) {i : Nat} {b : Bd} (hb : l[i]? = some b) : ∃ ad, ∃ p : Option Addr × Nat, ElemAt μ base n 5 i ad (b.cs p) ∧ RepV μ b.d (.agg (b.cs p).toArray) := by
  obtain ⟨ad, cs, h1, h2⟩ := h.get i b.d (by simp [hb])
  obtain ⟨p, rfl, _⟩ := Bd.invS (b := b) h2
  exact ⟨ad, p, h1, _, rfl, h2⟩
theorem szBinding_spec (b : Bd) {v : Value} {left : Int} (hv : RepV μ b.d v) (hl : 0 ≤ left) (hl2 : left ≤ 1048576) (hw : b.d.wd) : Gives Try.prog 51 [v, .int .i64 left] μ (.int .i64 (szR left b.d.sz)) := by
  obtain ⟨p, rfl, ht⟩ := Bd.inv hv
  have hsz : b.d.sz = b.to.d.sz := by simp [Bd.d, D.sz, D.szs]
  refine Spec.mk Try.func51 (by kernel_rfl) ?_
  intro r
  refine call_gives (szTerm_spec b.to ht hl hl2 hw.2.1) ?_
  rw [hsz]
  refine ifd (fun h => ret_gives ?_ rfl) (fun h => ret_gives rfl rfl)
  rw [szR_neg (szR_lt h)]
theorem szBindingS_of {l : List Bd} (he : ∀ t ∈ l, ∀ {v : Value} {left : Int}, RepV μ t.d v → 0 ≤ left → left ≤ 1048576 → t.d.wd → Gives Try.prog 51 [v, .int .i64 left] μ (.int .i64 (szR left t.d.sz)))
    {base : Option Addr} {cap : Nat} {left : Int} (hsl : Sl μ 5 base l.length (l.map Bd.d)) (hl : 0 ≤ left) (hl2 : left ≤ 1048576) (hw : D.wds (l.map Bd.d)) :
    Gives Try.prog 24 [.slice base l.length cap, .int .i64 left] μ (.int .i64 (szR left (l.length + D.szs (l.map Bd.d)))) := by
  have hn := maxLen_le hsl.max
  refine Spec.mk Try.func24 (by kernel_rfl) ?_
  refine num64 (by omega) (by omega) (ifd (fun h => ret_gives ?_ rfl) (fun h => ?_))
  · rw [szR_neg (by omega)]
  refine loop_intro (fun i : Nat => i ≤ l.length ∧ (D.szs ((l.map Bd.d).take i) : Int) ≤ left - l.length) (fun i => ⟨[(0, .val (.slice base l.length cap)), (1, .val (.int .i64 (left - l.length - D.szs ((l.map Bd.d).take i)))), (5, .val (.int .i64 i))], [], 0, μ, Mem.nil⟩) (fun i => l.length - i)
    0 ⟨by omega, by simp [D.szs]; omega⟩ (fun i => ⟨rfl, rfl⟩) ⟨⟨rfl, by show some (SV.val (.int .i64 _)) = some (SV.val (.int .i64 _)); congr 3; simp [D.szs], rfl, trivial⟩, trivial, rfl, rfl⟩ ?_
  rintro i ⟨hi, hz⟩
  refine ifd (fun h => ?_) (fun h => ?_)
  · obtain ⟨t, ht⟩ := at_some (l := l) (i := i) (by omega)
    have hx := at_map (f := Bd.d) ht
    have hs := D.szs_take hx
    have hs' := D.szs_le (l.map Bd.d) (i + 1)
    obtain ⟨ad, p, hel, hr⟩ := Bd.elem hsl ht
    refine elem_intro hel (call_gives (he t (mem_at ht) hr (by omega) (by omega) (D.wds_mem hw _ (mem_at hx))) ?_)
    refine ifd (fun h => ret_gives ?_ rfl) (fun h => ?_)
    · have := szR_lt h
      rw [szR_neg (by omega)]
    · have := szR_ge h
      refine num64 (by omega) (by omega) ⟨i + 1, ⟨by omega, by omega⟩, by omega, ⟨⟨rfl, ?_, rfl, trivial⟩, trivial, rfl, rfl⟩⟩
      rw [szR_pos this, hs]
      show some (SV.val (.int .i64 _)) = some (SV.val (.int .i64 _))
      congr 3; omega
  · obtain rfl : i = l.length := by omega
    rw [List.take_of_length_le (by simp)] at hz ⊢
    refine ret_gives ?_ rfl
    rw [szR_pos (by omega)]; congr 1; omega
theorem szBindingS_spec {l : List Bd} {base : Option Addr} {cap : Nat} {left : Int} (hsl : Sl μ 5 base l.length (l.map Bd.d)) (hl : 0 ≤ left) (hl2 : left ≤ 1048576) (hw : D.wds (l.map Bd.d)) :
    Gives Try.prog 24 [.slice base l.length cap, .int .i64 left] μ (.int .i64 (szR left (l.length + D.szs (l.map Bd.d)))) := szBindingS_of (fun t _ _ _ => szBinding_spec t) hsl hl hl2 hw
theorem toBinding_spec (b : Bd) {μ : Mem} {v : Value} (hv : RepV μ b.d v) (hb : b.d.sz ≤ 1048576) : Spec Try.prog 56 [v] μ fun v μ' => Fresh μ μ' b.d v := by
  obtain ⟨p, rfl, ht⟩ := Bd.inv hv
  have hsz : b.d.sz = b.to.d.sz := by simp [Bd.d, D.sz, D.szs]
  refine Spec.mk Try.func56 (by kernel_rfl) ?_
  intro r1 r2 r3
  refine call_plain (toTerm_spec b.to ht (by omega)) fun v μ' hle hf => ?_
  obtain ⟨p', rfl⟩ := Tm.invV hf.rep
  obtain ⟨h, h1, h2, h3⟩ := hf
  exact ret_plain ⟨h, ⟨_, rfl, OwnS.int (OwnS.last h1.cells)⟩, h2, h3⟩
theorem toBindingS_of {l : List Bd} (he : ∀ t ∈ l, ∀ {μ : Mem} {v : Value}, RepV μ t.d v → t.d.sz ≤ 1048576 → Spec Try.prog 56 [v] μ fun v μ' => Fresh μ μ' t.d v)
    {base : Option Addr} {cap : Nat} (hsl : Sl μ 5 base l.length (l.map Bd.d)) (hb : l.length + D.szs (l.map Bd.d) ≤ 1048576) :
    Spec Try.prog 27 [.slice base l.length cap] μ fun v μ' => Fresh μ μ' (.sl 5 (l.map Bd.d)) v := by
  refine Spec.mk Try.func27 (by kernel_rfl) ?_
  refine make_intro l.length rfl rfl (by simp only; omega) (Nat.le_trans (m := 1048576) (by omega) (by decide)) ?_
  intro r
  refine loop_intro (fun p : Nat × List Value × Mem => μ.Le p.2.2 ∧ ∃ g, Filled 5 (.agg #[.int .i64 0, .int .i64 0, .int .i64 0, .string ⟨#[]⟩, .slice none 0 0]) μ p.2.2 (l.map Bd.d) p.1 p.2.1 g)
    (fun (i, xs, μ') => ⟨[(0, .val (.slice base l.length cap)), (3, .row 0 (some r) l.length l.length), (4, .val (.int .i64 i))], [(0, some (.row (some r) l.length 82 5 xs))], 1, μ', Mem.nil⟩) (fun p => l.length - p.1)
    (0, List.replicate l.length (.agg #[.int .i64 0, .int .i64 0, .int .i64 0, .string ⟨#[]⟩, .slice none 0 0]), μ) ⟨Mem.Le.refl μ, _, Filled.start (by simp)⟩ (fun (_, _, _) => ⟨rfl, rfl⟩) ⟨⟨rfl, rfl, rfl, trivial⟩, ⟨rfl, trivial⟩, rfl, rfl⟩ ?_
  rintro ⟨i, xs, μ'⟩ ⟨hle, g, hf⟩
  dsimp only at hle hf
  have hi := hf.le
  have hlen := hf.len
  rw [List.length_map] at hi hlen
  refine ifd (fun h => ?_) (fun h => ?_)
  · obtain ⟨t, ht⟩ := at_some (l := l) (i := i) (by omega)
    have hx := at_map (f := Bd.d) ht
    have hs := D.szs_mem hx
    obtain ⟨ad, p, hel, hr⟩ := Bd.elem (hsl.mono hle) ht
    refine elem_intro hel (call_plain (he t (mem_at ht) hr (by omega)) fun v μ'' hle2 hfr => ?_)
    obtain ⟨g', hf'⟩ := hf.step hx (Bd.d_n t) hfr hle2
    obtain ⟨p2, rfl⟩ := Bd.invV hfr.rep
    refine rel_intro i rfl (by omega) ?_
    refine get_intro _ (hf.rest i (by omega) (by simpa using h)) ?_
    refine num64 (by omega) (by omega) ⟨(i + 1, _, μ''), ⟨hle.trans hle2, g', hf'⟩, by dsimp only; omega, ⟨⟨rfl, rfl, rfl, trivial⟩, ⟨rfl, trivial⟩, rfl, rfl⟩⟩
  · obtain rfl : i = l.length := by omega
    refine ret_frz [0] fun μ2 hle2 hno hrow => .inl ?_
    have := Fresh.ofRow (hf.all (by simp)) hf.sub hf.new hle hle2 hno hrow (Nat.le_trans (m := 1048576) (by omega) (by decide))
    rw [hlen] at this
    exact this
theorem toBindingS_spec {l : List Bd} {base : Option Addr} {cap : Nat} (hsl : Sl μ 5 base l.length (l.map Bd.d)) (hb : l.length + D.szs (l.map Bd.d) ≤ 1048576) :
    Spec Try.prog 27 [.slice base l.length cap] μ fun v μ' => Fresh μ μ' (.sl 5 (l.map Bd.d)) v := toBindingS_of (fun t _ _ _ => toBinding_spec t) hsl hb
theorem eqBinding_spec (b : Bd) {v v' : Value} (hv : RepV μ b.d v) (hv' : RepV μ b.d v') : Gives Try.prog 60 [v, v'] μ (.bool true) := by
  obtain ⟨p, rfl, ht⟩ := Bd.inv hv
  obtain ⟨p', rfl, ht'⟩ := Bd.inv hv'
  refine Spec.mk Try.func60 (by kernel_rfl) ?_
  intro r1 r2
  repeat' (first
    | refine ifnd (fun h => absurd rfl h) (fun _ => ?_)
    | refine call_gives (eqTerm_spec b.to ht ht') ?_
    | refine if_intro (fun h => nomatch h) (fun _ => ?_))
  exact ret_gives rfl rfl
theorem eqBindingS_of {l : List Bd} (he : ∀ t ∈ l, ∀ {v v' : Value}, RepV μ t.d v → RepV μ t.d v' → Gives Try.prog 60 [v, v'] μ (.bool true))
    {base base' : Option Addr} {cap cap' : Nat} (hl : Sl μ 5 base l.length (l.map Bd.d)) (hl' : Sl μ 5 base' l.length (l.map Bd.d)) :
    Gives Try.prog 30 [.slice base l.length cap, .slice base' l.length cap'] μ (.bool true) := by
  have hn := maxLen_le hl.max
  refine Spec.mk Try.func30 (by kernel_rfl) ?_
  refine ifnd (fun h => absurd rfl h) (fun _ => ?_)
  refine loop_intro (fun i : Nat => i ≤ l.length) (fun i => ⟨[(0, .val (.slice base l.length cap)), (1, .val (.slice base' l.length cap')), (5, .val (.int .i64 i))], [], 0, μ, Mem.nil⟩) (fun i => l.length - i)
    0 (by omega) (fun i => ⟨rfl, rfl⟩) ⟨⟨rfl, rfl, rfl, trivial⟩, trivial, rfl, rfl⟩ ?_
  intro i hi
  refine ifd (fun h => ?_) (fun h => ?_)
  · obtain ⟨t, ht⟩ := at_some (l := l) (i := i) (by omega)
    obtain ⟨ad, p, hel, hr⟩ := Bd.elem hl ht
    obtain ⟨ad', p', hel', hr'⟩ := Bd.elem hl' ht
    refine elem_intro hel (elem_intro hel' (call_gives (he t (mem_at ht) hr hr') ?_))
    refine if_intro (fun h => nomatch h) (fun _ => ?_)
    exact num64 (by omega) (by omega) ⟨i + 1, by omega, by omega, ⟨⟨rfl, rfl, rfl, trivial⟩, trivial, rfl, rfl⟩⟩
  · exact ret_gives rfl rfl
theorem eqBindingS_spec {l : List Bd} {base base' : Option Addr} {cap cap' : Nat} (hl : Sl μ 5 base l.length (l.map Bd.d)) (hl' : Sl μ 5 base' l.length (l.map Bd.d)) :
    Gives Try.prog 30 [.slice base l.length cap, .slice base' l.length cap'] μ (.bool true) := eqBindingS_of (fun t _ _ _ => eqBinding_spec t) hl hl'
end
end Go.Vx
