/- Contracts: the variables of a term, visited in order; ground terms. -/
import Derived.Test.YtjgohkogcdmbdaaVn
namespace Go.Vx
open Go.Proofs Classical
section
variable {μ : Mem}
/-- The parts of a pair. -/
theorem T.parts {a b : T} {base : Option Addr} {n : Nat} (h : Sl μ 4 base n ([a.tm, b.tm].map Tm.d)) : ∃ ad ad', ∃ p p' : Option Addr × Nat, ElemAt μ base n 4 ((0 : Nat) : Int) ad (a.tm.cs p) ∧ ElemAt μ base n 4 ((1 : Nat) : Int) ad' (b.tm.cs p') ∧ RepV μ a.tm.d (.agg (a.tm.cs p).toArray) ∧ RepV μ b.tm.d (.agg (b.tm.cs p').toArray) := by
  obtain ⟨ad, p, h1, h2⟩ := Tm.elem (i := 0) h rfl
  obtain ⟨ad', p', h3, h4⟩ := Tm.elem (i := 1) h rfl
  exact ⟨ad, ad', p, p', h1, h3, h2, h4⟩
theorem eachVar_spec {S : Type} (hp : S → Mem) (step : S → Int → S) {k : FuncId} {caps : List Value} {Q : Int → Prop}
    (hc : ∀ s n, Q n → SpecH Try.prog k (.int .i64 n :: caps) μ (hp s) fun r μ' h' => r = .tuple #[] ∧ μ' = μ ∧ h' = hp (step s n)) :
    ∀ (x : T) {v : Value} (s : S), RepV μ x.tm.d v → (∀ n ∈ x.vars, Q n) → SpecH Try.prog 77 [v, .func (.func k) #[] caps.toArray] μ (hp s) fun r μ' h' => r = .tuple #[] ∧ μ' = μ ∧ h' = hp (x.vars.foldl step s)
  | .var n, v, s, hv, hq => by
    obtain ⟨base, cap, rfl, hsl⟩ := Tm.inv hv
    refine SpecH.mk [] Try.func77 (by kernel_rfl) ?_
    intro r
    refine ifd (fun _ => ?_) (fun h => absurd rfl h)
    refine call_own (hc s n (hq n (by simp [T.vars]))) fun v μ' h' hle hap hR => ?_
    obtain ⟨rfl, rfl, rfl⟩ := hR
    refine ifd (fun h => absurd h (by decide)) (fun _ => ?_)
    exact ret_plain ⟨rfl, rfl, rfl⟩
  | .nil, v, s, hv, hq => by
    obtain ⟨base, cap, rfl, hsl⟩ := Tm.inv hv
    refine SpecH.mk [] Try.func77 (by kernel_rfl) ?_
    intro r
    refine ifd (fun h => absurd h (by decide)) (fun _ => ?_)
    refine ifd (fun h => absurd h (by decide)) (fun _ => ?_)
    exact ret_plain ⟨rfl, rfl, rfl⟩
  | .sym _, v, s, hv, hq => by
    obtain ⟨base, cap, rfl, hsl⟩ := Tm.inv hv
    refine SpecH.mk [] Try.func77 (by kernel_rfl) ?_
    intro r
    refine ifd (fun h => absurd h (by decide)) (fun _ => ?_)
    refine ifd (fun h => absurd h (by decide)) (fun _ => ?_)
    exact ret_plain ⟨rfl, rfl, rfl⟩
  | .num _, v, s, hv, hq => by
    obtain ⟨base, cap, rfl, hsl⟩ := Tm.inv hv
    refine SpecH.mk [] Try.func77 (by kernel_rfl) ?_
    intro r
    refine ifd (fun h => absurd h (by decide)) (fun _ => ?_)
    refine ifd (fun h => absurd h (by decide)) (fun _ => ?_)
    exact ret_plain ⟨rfl, rfl, rfl⟩
  | .pair a b, v, s, hv, hq => by
    obtain ⟨base, cap, rfl, hsl⟩ := Tm.inv hv
    obtain ⟨ad, ad', p, p', h1, h2, hra, hrb⟩ := T.parts hsl
    refine SpecH.mk [] Try.func77 (by kernel_rfl) ?_
    intro r
    refine ifd (fun h => absurd h (by decide)) (fun _ => ?_)
    refine ifd (fun _ => ?_) (fun h => absurd rfl h)
    refine elem_intro h1 (call_own (eachVar_spec hp step hc a s hra fun n hn => hq n (by simp [T.vars, hn])) fun v μ' h' hle hap hR => ?_)
    obtain ⟨rfl, e2, rfl⟩ := hR
    obtain rfl := e2.symm
    refine elem_intro h2 (call_own (eachVar_spec hp step hc b _ hrb fun n hn => hq n (by simp [T.vars, hn])) fun v μ' h' hle hap hR => ?_)
    obtain ⟨rfl, e2, rfl⟩ := hR
    obtain rfl := e2.symm
    exact ret_plain ⟨rfl, rfl, by simp [T.vars]⟩
/-- A cell of one's own that a closure turns. -/
def boolAt (r : Nat) (b : Bool) : Mem := Mem.nil.set r (.cells #[.bool b] 4 (0, 0))
theorem set_nil (r : Nat) (o o' : Obj) : (Mem.nil.set r o).set r o' = Mem.nil.set r o' := Mem.set_set _ _ _ _
theorem set_self (h : Mem) (r : Nat) (o : Obj) : h.set r o r = some o := by simp [Mem.set_get]
theorem isGround1_spec (r : Nat) (b : Bool) (n : Int) : SpecH Try.prog 78 [.int .i64 n, .pointer (some ⟨r, 0, none⟩)] μ (boolAt r b) fun v μ' h' => v = .tuple #[] ∧ μ' = μ ∧ h' = boolAt r false := by
  refine SpecH.mk [] Try.func78 (by kernel_rfl) ?_
  refine sto_intro (h := boolAt r b) (a := ⟨r, 0, none⟩) [.bool b] 4 (set_self _ _ _) rfl ?_ ?_
  · exact Nat.le_refl _
  exact ret_plain ⟨rfl, rfl, set_nil _ _ _⟩
theorem isGround_spec (x : T) {v : Value} (hv : RepV μ x.tm.d v) : Gives Try.prog 50 [v] μ (.bool (decide (x.vars = []))) := by
  obtain ⟨p, rfl⟩ := Tm.invV hv
  refine Spec.mkO [3] Try.func50 (by kernel_rfl) ?_
  intro r r2 h1 h2
  refine sto_intro [.bool false] 4 (set_self _ _ _) rfl ?_ ?_
  · exact Nat.le_refl _
  have e : ((Mem.nil.set r2 (.cells #[.bool false] 4 (0, 0))).set r2 (.cells #[.bool true] 4 (0, 0))) = boolAt r2 true := set_nil _ _ _
  refine call_own (R := fun r μ' h' => r = .tuple #[] ∧ μ' = μ ∧ h' = boolAt r2 (x.vars.foldl (fun _ _ => false) true)) ?_ fun v μ' h' hle hap hR => ?_
  · have := eachVar_spec (boolAt r2) (fun _ _ => false) (Q := fun _ => True) (fun s n _ => isGround1_spec r2 s n) x true hv (fun _ _ => trivial)
    rw [← e] at this
    exact this
  obtain ⟨rfl, rfl, rfl⟩ := hR
  refine own_intro [.bool (x.vars.foldl (fun _ _ => false) true)] rfl (fun j v hj => ?_) ?_
  · match j, hj with
    | 0, hj => cases hj; simp [boolAt, Mem.cell, Addr.add_lit', set_self]
  · refine ret_plain ⟨?_, rfl⟩
    have : ∀ (l : List Int) (b : Bool), l.foldl (fun _ _ => false) b = if l = [] then b else false := fun l => by
      induction l with
      | nil => simp
      | cons a l ih => intro b; simp only [List.foldl_cons, ih]; simp
    rw [this]
    by_cases h : x.vars = [] <;> simp [h]
end
end Go.Vx
