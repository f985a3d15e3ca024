/- Contracts: the program's search for a binding. -/
import Derived.Test.YtjgohkogcdmbdaaVv
namespace Go.Vx
open Go.Proofs Classical
/-- Variables in order. -/
def Srt (bs : List B) : Prop := ∀ (i j : Nat) b c, i < j → bs[i]? = some b → bs[j]? = some c → b.var < c.var
theorem box_at {μ : Mem} {r : Nat} {x : Value} {ty : TypeId} (h : μ r = some (.cells #[x] ty (0, 0))) : ∀ j v, [x][j]? = some v → μ.cell ((⟨r, 0, none⟩ : Addr).add j) = some v := fun j v hj => by
  match j, hj with
  | 0, hj => cases hj; simp [Mem.cell, Addr.add_lit', h]
section
variable {μ : Mem}
theorem B.elem {bs : List B} {base : Option Addr} {n : Nat} (h : Sl μ 5 base n ((bs.map B.bd).map Bd.d)) {i : Nat} {b : B} (hb : bs[i]? = some b) : ∃ ad, ∃ p : Option Addr × Nat, ElemAt μ base n 5 i ad (b.bd.cs p) ∧ RepV μ b.to.tm.d (.agg (b.to.tm.cs p).toArray) := by
  have hb' : (bs.map B.bd)[i]? = some b.bd := by simp [hb]
  obtain ⟨ad, p, h1, h2⟩ := Bd.elem h hb'
  exact ⟨ad, p, h1, Bd.toV h2⟩
def atLeast (bs : List B) (n : Int) (z : Int) : Prop := ∃ b, bs[z.toNat]? = some b ∧ n ≤ b.var
theorem find1_spec {bs : List B} {base : Option Addr} {cap : Nat} {n : Int} {r1 r2 : Nat} {t1 t2 : TypeId} (hsl : Sl μ 5 base bs.length ((bs.map B.bd).map Bd.d)) (h1 : μ r1 = some (.cells #[.slice base bs.length cap] t1 (0, 0))) (h2 : μ r2 = some (.cells #[.int .i64 n] t2 (0, 0))) {i : Nat} (hi : i < bs.length) :
    Gives Try.prog 99 [.int .i64 i, .pointer (some ⟨r1, 0, none⟩), .pointer (some ⟨r2, 0, none⟩)] μ (.bool (decide (atLeast bs n i))) := by
  obtain ⟨b, hb⟩ := at_some hi
  obtain ⟨ad, p, hel, _⟩ := B.elem hsl hb
  refine Spec.mk Try.func99 (by kernel_rfl) ?_
  refine ext_intro [.slice base bs.length cap] rfl (box_at h1) ?_
  refine elem_intro hel ?_
  refine ext_intro [.int .i64 n] rfl (box_at h2) ?_
  refine ret_gives (isI ?_) rfl
  constructor
  · intro h; exact ⟨b, hb, h⟩
  · rintro ⟨c, hc, h⟩
    have hc : bs[i]? = some c := hc
    rw [hb] at hc; cases hc; exact h
/-- Where a variable is bound. -/
def FindR (bs : List B) (n : Int) (v : Value) : Prop := (∃ (i : Nat) (b : B), v = .int .i64 i ∧ bs[i]? = some b ∧ b.var = n) ∨ (v = .int .i64 (-1) ∧ ∀ b ∈ bs, b.var ≠ n)
theorem find_spec {bs : List B} {base : Option Addr} {cap : Nat} {n : Int} (hs : Srt bs) (hlen : bs.length ≤ 1000000000) (hsl : Sl μ 5 base bs.length ((bs.map B.bd).map Bd.d)) :
    Spec Try.prog 87 [.slice base bs.length cap, .int .i64 n] μ fun v μ' => FindR bs n v ∧ μ' = μ := by
  refine Spec.forget (Spec.mk Try.func87 (by kernel_rfl) ?_)
  intro r1 r2
  refine call_frz [0, 1] ?_
  intro μ1 hle1 hno1 hat1 μ2 hle2 hno2 hat2
  have hsl2 := (hsl.mono hle1).mono hle2
  have e1 : μ2 r1 = some (.cells #[.slice base bs.length cap] 54 (0, 0)) := hle2 _ _ hat1
  refine call_go (Search_spec (p := atLeast bs n) hlen fun i hi => find1_spec hsl2 e1 hat2 hi) fun v μ3 hle3 hR => ?_
  obtain ⟨⟨i, rfl, g1, g2, g3⟩, rfl⟩ := hR
  have low : ∀ (j : Nat) b, j < i → bs[j]? = some b → b.var < n := fun j b hj hb => by
    obtain ⟨c, hc⟩ := at_some (l := bs) (i := i - 1) (by omega)
    have h4 : c.var < n := by
      rcases Int.lt_or_le c.var n with h | h
      · exact h
      · exact absurd ⟨c, hc, h⟩ (g3 (i - 1) (by omega))
    rcases Nat.lt_or_ge j (i - 1) with h | h
    · have := hs j (i - 1) b c h hb hc; omega
    · obtain rfl : j = i - 1 := by omega
      rw [hb] at hc; cases hc; exact h4
  have none : (∀ b, bs[i]? = some b → b.var ≠ n) → FindR bs n (.int .i64 (-1)) := fun h => .inr ⟨rfl, fun b hb => by
    obtain ⟨j, hj⟩ := List.mem_iff_getElem?.1 hb
    rcases Nat.lt_or_ge j i with h1 | h1
    · have := low j b h1 hj; omega
    · have hjl := (List.getElem?_eq_some_iff.1 hj).1
      obtain ⟨c, hc⟩ := at_some (l := bs) (i := i) (by omega)
      obtain ⟨c', hc', h2⟩ := g2 (by omega)
      have hc' : bs[i]? = some c' := hc'
      rw [hc] at hc'; cases hc'
      have := h c hc
      rcases Nat.eq_or_lt_of_le h1 with h3 | h3
      · subst h3; rw [hj] at hc; cases hc; omega
      · have := hs i j c b h3 hc hj; omega⟩
  refine ext_intro [.slice base bs.length cap] rfl (box_at e1) ?_
  refine ifd (fun h => ?_) (fun h => ?_)
  · obtain ⟨b, hb⟩ := at_some (l := bs) (i := i) (by omega)
    obtain ⟨ad, p, hel, _⟩ := B.elem hsl2 hb
    refine ext_intro [.slice base bs.length cap] rfl (box_at e1) ?_
    refine elem_intro hel ?_
    refine ext_intro [.int .i64 n] rfl (box_at hat2) ?_
    refine ifd (fun h2 => ?_) (fun h2 => ?_)
    · exact ret_plain (.inl ⟨i, b, rfl, hb, h2⟩)
    · exact ret_plain (none fun c hc => by rw [hb] at hc; cases hc; exact h2)
  · exact ret_plain (none fun c hc => absurd (List.getElem?_eq_some_iff.1 hc).1 (by omega))
end
end Go.Vx
