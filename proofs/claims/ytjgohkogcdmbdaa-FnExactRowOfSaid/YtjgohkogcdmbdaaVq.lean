/- Contracts: RowOf, and the law that both agree. -/
import Derived.Test.YtjgohkogcdmbdaaVp
namespace Go.Vx
open Go.Proofs Classical
section
variable {μ : Mem}
/-- The row's number, as far as its first terms say. -/
noncomputable def rowTo (l : List T) : Nat → Int
  | 0 => 0
  | i + 1 => rowTo l i + (match l[i]? with | some x => if x.vars = [] then 2 ^ i else 0 | none => 0)
theorem rowTo_lt (l : List T) : ∀ i, 0 ≤ rowTo l i ∧ rowTo l i < 2 ^ i
  | 0 => by simp [rowTo]
  | i + 1 => by
    obtain ⟨h1, h2⟩ := rowTo_lt l i
    have e : (2 : Int) ^ (i + 1) = 2 ^ i + 2 ^ i := by rw [Int.pow_succ]; omega
    simp only [rowTo, e]
    split
    · split <;> omega
    · omega
def rowOk (l : List Tm) : Prop := (∀ t ∈ l, t.Ok) ∧ l.length ≤ 4
noncomputable def rowOf (l : List Tm) : Int := if h : rowOk l then rowTo (lift_ok h.1).choose l.length else -1
theorem rowOf_eq {xs : List T} (h : rowOk (xs.map T.tm)) : rowOf (xs.map T.tm) = rowTo xs xs.length := by
  rw [rowOf, dif_pos h]
  have e := (lift_ok h.1).choose_spec.1
  have : xs = (lift_ok h.1).choose := by
    generalize (lift_ok h.1).choose = ys at e
    clear h
    induction xs generalizing ys with
    | nil => cases ys with
      | nil => rfl
      | cons y ys => simp at e
    | cons x xs ih => cases ys with
      | nil => simp at e
      | cons y ys =>
        simp only [List.map_cons, List.cons.injEq] at e
        rw [T.tm_inj e.1, ih ys e.2]
  rw [← this, List.length_map]
theorem spec_RowOf_spec {l : List Tm} {base : Option Addr} {cap : Nat} (hsl : Sl μ 4 base l.length (l.map Tm.d)) (hw : D.wds (l.map Tm.d)) : Gives Try.prog 19 [.slice base l.length cap] μ (.int .i64 (rowOf l)) := by
  have hn := maxLen_le hsl.max
  have bad : ¬ rowOk l → Value.int .i64 (-1) = .int .i64 (rowOf l) := fun h => by rw [rowOf, dif_neg h]
  refine Spec.mk Try.func19 (by kernel_rfl) ?_
  refine call_gives (l02AllOk_spec hsl hw) ?_
  refine ifnd (fun h => ret_gives (bad fun k => h k.1) rfl) (fun hall => ?_)
  refine ifd (fun h => ret_gives (bad fun k => by have := k.2; omega) rfl) (fun hlen => ?_)
  obtain ⟨xs, rfl, hxs⟩ := lift_ok hall
  rw [rowOf_eq ⟨hall, by omega⟩]
  rw [List.length_map] at *
  refine loop_intro (fun i : Nat => i ≤ xs.length) (fun i => ⟨[(3, .val (.int .i64 (rowTo xs i))), (14, .val (.slice base xs.length cap)), (15, .val (.int .i64 xs.length)), (16, .val (.int .i64 i))], [], 0, μ, Mem.nil⟩) (fun i => xs.length - i)
    0 (by omega) (fun i => ⟨rfl, rfl⟩) ⟨⟨rfl, rfl, rfl, rfl, trivial⟩, trivial, rfl, rfl⟩ ?_
  intro i hi
  refine ifd (fun h => ?_) (fun h => ?_)
  · obtain ⟨x, hx⟩ := at_some (l := xs) (i := i) (by omega)
    have hx' : (xs.map T.tm)[i]? = some x.tm := by simp [hx]
    obtain ⟨ad, p, hel, hr⟩ := Tm.elem hsl hx'
    have hlt := rowTo_lt xs i
    have hp : (2 : Int) ^ i ≤ 8 := by
      have : i ≤ 3 := by omega
      have h2 : (2 : Nat) ^ i ≤ 2 ^ 3 := Nat.pow_le_pow_right (by omega) this
      exact_mod_cast h2
    have hp0 : (0 : Int) < 2 ^ i := Int.pow_pos (by omega)
    have hs : rowTo xs (i + 1) = rowTo xs i + if x.vars = [] then 2 ^ i else 0 := by simp only [rowTo, hx]
    refine elem_intro hel ?_
    intro r
    refine call_gives (spec_IsGround_spec x hr (hxs x (mem_at hx)) (D.wds_mem hw _ (mem_at (at_map (f := Tm.d) hx')))) ?_
    refine ifd (fun hg => ?_) (fun hg => ?_)
    · rw [if_pos hg] at hs
      refine need_intro (by omega) ?_
      refine num_eq (x := 2 ^ i) ?_ ?_
      · have e : min ((i : Int).toNat) IntKind.i64.bits = i := by
          show min ((i : Int).toNat) 64 = i
          omega
        rw [e, Int.one_mul, wrap64 (by omega) (by omega)]
      refine num_eq (x := rowTo xs (i + 1)) ?_ ?_
      · rw [wrap64 (by omega) (by omega), hs]
      exact num64 (by omega) (by omega) ⟨i + 1, by omega, by omega, ⟨⟨rfl, rfl, rfl, rfl, trivial⟩, trivial, rfl, rfl⟩⟩
    · rw [if_neg hg, Int.add_zero] at hs
      exact num64 (by omega) (by omega) ⟨i + 1, by omega, by omega, ⟨⟨by rw [hs]; rfl, rfl, rfl, rfl, trivial⟩, trivial, rfl, rfl⟩⟩
  · obtain rfl : i = xs.length := by omega
    exact ret_gives rfl rfl
theorem impl_RowOf_spec {l : List Tm} {base : Option Addr} {cap : Nat} (hsl : Sl μ 4 base l.length (l.map Tm.d)) : Gives Try.prog 21 [.slice base l.length cap] μ (.int .i64 (rowOf l)) := by
  have hn := maxLen_le hsl.max
  have bad : ¬ rowOk l → Value.int .i64 (-1) = .int .i64 (rowOf l) := fun h => by rw [rowOf, dif_neg h]
  refine Spec.mk Try.func21 (by kernel_rfl) ?_
  refine ifd (fun h => ret_gives (bad fun k => by have := k.2; omega) rfl) (fun hlen => ?_)
  refine call_gives (termsOk_spec hsl) ?_
  refine ifnd (fun h => ret_gives (bad fun k => h k.1) rfl) (fun hall => ?_)
  obtain ⟨xs, rfl, hxs⟩ := lift_ok hall
  rw [rowOf_eq ⟨hall, by omega⟩]
  rw [List.length_map] at *
  refine loop_intro (fun i : Nat => i ≤ xs.length) (fun i => ⟨[(3, .val (.int .i64 (rowTo xs i))), (14, .val (.slice base xs.length cap)), (15, .val (.int .i64 xs.length)), (16, .val (.int .i64 i))], [], 0, μ, Mem.nil⟩) (fun i => xs.length - i)
    0 (by omega) (fun i => ⟨rfl, rfl⟩) ⟨⟨rfl, rfl, rfl, rfl, trivial⟩, trivial, rfl, rfl⟩ ?_
  intro i hi
  refine ifd (fun h => ?_) (fun h => ?_)
  · obtain ⟨x, hx⟩ := at_some (l := xs) (i := i) (by omega)
    have hx' : (xs.map T.tm)[i]? = some x.tm := by simp [hx]
    obtain ⟨ad, p, hel, hr⟩ := Tm.elem hsl hx'
    have hlt := rowTo_lt xs i
    have hp : (2 : Int) ^ i ≤ 8 := by
      have : i ≤ 3 := by omega
      have h2 : (2 : Nat) ^ i ≤ 2 ^ 3 := Nat.pow_le_pow_right (by omega) this
      exact_mod_cast h2
    have hp0 : (0 : Int) < 2 ^ i := Int.pow_pos (by omega)
    have hs : rowTo xs (i + 1) = rowTo xs i + if x.vars = [] then 2 ^ i else 0 := by simp only [rowTo, hx]
    refine elem_intro hel ?_
    intro r
    refine call_gives (isGround_spec x hr) ?_
    refine ifd (fun hg => ?_) (fun hg => ?_)
    · rw [if_pos hg] at hs
      refine need_intro (by omega) ?_
      refine num_eq (x := 2 ^ i) ?_ ?_
      · have e : min ((i : Int).toNat) IntKind.i64.bits = i := by
          show min ((i : Int).toNat) 64 = i
          omega
        rw [e, Int.one_mul, wrap64 (by omega) (by omega)]
      refine num_eq (x := rowTo xs (i + 1)) ?_ ?_
      · rw [wrap64 (by omega) (by omega), hs]
      exact num64 (by omega) (by omega) ⟨i + 1, by omega, by omega, ⟨⟨rfl, rfl, rfl, rfl, trivial⟩, trivial, rfl, rfl⟩⟩
    · rw [if_neg hg, Int.add_zero] at hs
      exact num64 (by omega) (by omega) ⟨i + 1, by omega, by omega, ⟨⟨by rw [hs]; rfl, rfl, rfl, rfl, trivial⟩, trivial, rfl, rfl⟩⟩
  · obtain rfl : i = xs.length := by omega
    exact ret_gives rfl rfl
theorem FnExactRowOf_spec {l : List Tm} {v : Value} (hv : RepV μ (.sl 4 (l.map Tm.d)) v) (hw : D.wds (l.map Tm.d)) : Spec Try.prog 5 [v] μ fun r _ => r = .bool true := by
  obtain ⟨base, cap, rfl, hsl⟩ := Rep.sl hv
  rw [List.length_map] at hsl ⊢
  refine Spec.mk Try.func5 (by kernel_rfl) ?_
  refine call_gives (szTermS_spec hsl (by omega) (by omega) hw) ?_
  refine ifd (fun h => ret_plain rfl) (fun h => ?_)
  have hb : l.length + D.szs (l.map Tm.d) ≤ 1048576 := by
    have := szR_ge h; omega
  refine call_plain (toTermS_spec hsl hb) fun v1 μ1 hle1 hf1 => ?_
  obtain ⟨b1, c1, rfl, hs1⟩ := Rep.sl hf1.rep
  rw [List.length_map] at hs1 ⊢
  refine call_gives (spec_RowOf_spec hs1 hw) ?_
  refine call_plain (toTermS_spec (hsl.mono hle1) hb) fun v2 μ2 hle2 hf2 => ?_
  obtain ⟨b2, c2, rfl, hs2⟩ := Rep.sl hf2.rep
  rw [List.length_map] at hs2 ⊢
  refine call_gives (impl_RowOf_spec hs2) ?_
  refine ifnd (fun h => absurd rfl h) (fun _ => ?_)
  refine call_plain (toTermS_spec ((hsl.mono hle1).mono hle2) hb) fun v3 μ3 hle3 hf3 => ?_
  obtain ⟨b3, c3, rfl, hs3⟩ := Rep.sl hf3.rep
  rw [List.length_map] at hs3 ⊢
  refine call_gives (eqTermS_spec (hs2.mono hle3) hs3) ?_
  refine if_intro (fun h => nomatch h) (fun _ => ?_)
  exact ret_plain rfl
end
end Go.Vx
