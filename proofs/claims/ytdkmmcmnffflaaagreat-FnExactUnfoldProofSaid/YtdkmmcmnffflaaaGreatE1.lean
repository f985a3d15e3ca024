/- Texts of the proof, part E1. -/
import Derived.Below
import Derived.MapKept
import Derived.Orders
import Derived.Sort.AssemblyPlain
import Derived.WalkKit
import Derived.WideKeyMaps
import Derived.Test.YtdkmmcmnffflaaaGreatM5
namespace Go.Vx
theorem if_frz {b : Bool} {s : St} {A B : St → Prop} (fz : List Nat) (h : frzVC fz s fun s => (b = true → A s) ∧ (b = false → B s)) : ifVC true b s A B := ⟨.inr ⟨rfl, fz, h⟩⟩
theorem app_introT {μ h : Mem} {r n cap : Nat} {ty : TypeId} {es bytes : Nat} {ys : List Value} {K : Nat → Nat → Mem → Prop} (xs : List Value) (ty0 : TypeId) (e : xs.length = n) (hr : RowO h r cap ty0 es xs) (h1 : (n + ys.length) * bytes ≤ 140737488355328) (h2 : n + ys.length ≤ maxLen)
  (k : ∀ r' cap' o ty', RowO (h.set r' o) r' cap' ty' es (xs ++ ys) → (r' = r ∨ (h r' = none ∧ μ r' = none)) → K r' cap' (h.set r' o)) : appVC μ h r n cap ty es bytes ys K := ⟨⟨xs, ty0, e, hr, h1, h2, fun r' c' o ty' _ => k r' c' o ty'⟩⟩
theorem grow_introC {need bytes : Nat} {empty : Prop} {K : Option Nat → Nat → Prop} (h : need * bytes ≤ 140737488355328) (h' : need ≤ maxLen) (k : ∀ base' cap', need ≤ cap' → (base' = none → empty) → K base' cap') : growVC need bytes empty K := ⟨⟨h, h', k⟩⟩
theorem ret_frzA {s : St} {v : Value} {R : Value → Mem → Mem → Prop} (fz : List Nat) (h : frzVC fz s fun s => Apart s.mem s.own → R v s.mem s.own ∨ ∃ g k, Parts s.own g k ∧ R v (s.mem.join g) k) : retVC s v R := ⟨.inr ⟨fz, h⟩⟩
theorem zeros_intro {n : Int} {K : Nat → Prop} (m : Nat) (e : n = m) (h : K m) : zerosVC n K := ⟨⟨m, e, h⟩⟩
end Go.Vx
namespace Go.Vx
open Go.Proofs Classical
section
variable {μ : Mem}
theorem eachVar_spec {S : Type} (hp : S → Mem) (step : S → Int → S) {k : FuncId} {caps : List Value} {Q : Int → Prop}
  (hc : ∀ s n, Q n → SpecH Tryz.prog k (.int .i64 n :: caps) μ (hp s) fun r μ' h' => r = .tuple #[] ∧ μ' = μ ∧ h' = hp (step s n)) :
  ∀ (x : T) {v : Value} (s : S), RepV μ x.tm.d v → (∀ n ∈ x.vars, Q n) → SpecH Tryz.prog 173 [v, .func (.func k) #[] caps.toArray] μ (hp s) fun r μ' h' => r = .tuple #[] ∧ μ' = μ ∧ h' = hp (x.vars.foldl step s)
 | .var n, v, s, hv, hq => by
  have w_ := Tm.inv hv
  obtain ⟨base, cap, rfl, hsl⟩ := w_
  refine SpecH.mk [] Tryz.func173 (by kernel_rfl) ?_
  intro r
  refine ifd (fun _ => ?_) (fun h => absurd rfl h)
  refine cOw (hc s n (hq n (by simp [T.vars]))) fun v μ' h' hle hap hR => ?_
  obtain ⟨rfl, rfl, rfl⟩ := hR
  refine ifd (fun h => absurd h (by decide)) (fun _ => ?_)
  exact rPl ⟨rfl, rfl, rfl⟩
 | .nil, v, s, hv, hq => by
  have w_ := Tm.inv hv
  obtain ⟨base, cap, rfl, hsl⟩ := w_
  refine SpecH.mk [] Tryz.func173 (by kernel_rfl) ?_
  intro r
  refine ifd (fun h => absurd h (by decide)) (fun _ => ?_)
  refine ifd (fun h => absurd h (by decide)) (fun _ => ?_)
  exact rPl ⟨rfl, rfl, rfl⟩
 | .sym _, v, s, hv, hq => by
  have w_ := Tm.inv hv
  obtain ⟨base, cap, rfl, hsl⟩ := w_
  refine SpecH.mk [] Tryz.func173 (by kernel_rfl) ?_
  intro r
  refine ifd (fun h => absurd h (by decide)) (fun _ => ?_)
  refine ifd (fun h => absurd h (by decide)) (fun _ => ?_)
  exact rPl ⟨rfl, rfl, rfl⟩
 | .num _, v, s, hv, hq => by
  have w_ := Tm.inv hv
  obtain ⟨base, cap, rfl, hsl⟩ := w_
  refine SpecH.mk [] Tryz.func173 (by kernel_rfl) ?_
  intro r
  refine ifd (fun h => absurd h (by decide)) (fun _ => ?_)
  refine ifd (fun h => absurd h (by decide)) (fun _ => ?_)
  exact rPl ⟨rfl, rfl, rfl⟩
 | .pair a b, v, s, hv, hq => by
  have w_ := Tm.inv hv
  obtain ⟨base, cap, rfl, hsl⟩ := w_
  have w_ := T.parts hsl
  obtain ⟨ad, ad', p, p', h1, h2, hra, hrb⟩ := w_
  refine SpecH.mk [] Tryz.func173 (by kernel_rfl) ?_
  intro r
  refine ifd (fun h => absurd h (by decide)) (fun _ => ?_)
  refine ifd (fun _ => ?_) (fun h => absurd rfl h)
  refine eIn h1 (cOw (eachVar_spec hp step hc a s hra fun n hn => hq n (by simp [T.vars, hn])) fun v μ' h' hle hap hR => ?_)
  obtain ⟨rfl, e2, rfl⟩ := hR
  obtain rfl := e2.symm
  refine eIn h2 (cOw (eachVar_spec hp step hc b _ hrb fun n hn => hq n (by simp [T.vars, hn])) fun v μ' h' hle hap hR => ?_)
  obtain ⟨rfl, e2, rfl⟩ := hR
  obtain rfl := e2.symm
  exact rPl ⟨rfl, rfl, by simp [T.vars]⟩
def boolAt (r : Nat) (b : Bool) : Mem := Mem.nil.set r (.cells #[.bool b] 4 (0, 0))
theorem set_nil (r : Nat) (o o' : Obj) : (Mem.nil.set r o).set r o' = Mem.nil.set r o' := Mem.set_set _ _ _ _
theorem set_self (h : Mem) (r : Nat) (o : Obj) : h.set r o r = some o := by simp [Mem.set_get]
end
end Go.Vx
namespace Go.Vx
open Go.Proofs Classical
section
variable {μ : Mem}
theorem isGround1_spec (r : Nat) (b : Bool) (n : Int) : SpecH Tryz.prog 174 [.int .i64 n, .pointer (some ⟨r, 0, none⟩)] μ (boolAt r b) fun v μ' h' => v = .tuple #[] ∧ μ' = μ ∧ h' = boolAt r false := by
 refine SpecH.mk [] Tryz.func174 (by kernel_rfl) ?_
 refine sIn (h := boolAt r b) (a := ⟨r, 0, none⟩) [.bool b] 4 (set_self _ _ _) rfl ?_ ?_
 ·exact Nat.le_refl _
 exact rPl ⟨rfl, rfl, set_nil _ _ _⟩
theorem isGround_spec (x : T) {v : Value} (hv : RepV μ x.tm.d v) : Gives Tryz.prog 121 [v] μ (.bool (decide (x.vars = []))) := by
 have w_ := Tm.invV hv
 obtain ⟨p, rfl⟩ := w_
 refine Spec.mkO [3] Tryz.func121 (by kernel_rfl) ?_
 intro r r2 h1 h2
 refine sIn [.bool false] 4 (set_self _ _ _) rfl ?_ ?_
 ·exact Nat.le_refl _
 have e : ((Mem.nil.set r2 (.cells #[.bool false] 4 (0, 0))).set r2 (.cells #[.bool true] 4 (0, 0))) = boolAt r2 true := set_nil _ _ _
 refine cOw (R := fun r μ' h' => r = .tuple #[] ∧ μ' = μ ∧ h' = boolAt r2 (x.vars.foldl (fun _ _ => false) true)) ?_ fun v μ' h' hle hap hR => ?_
 ·have := eachVar_spec (boolAt r2) (fun _ _ => false) (Q := fun _ => True) (fun s n _ => isGround1_spec r2 s n) x true hv (fun _ _ => trivial)
  rw [← e] at this
  exact this
 obtain ⟨rfl, rfl, rfl⟩ := hR
 refine oIn [.bool (x.vars.foldl (fun _ _ => false) true)] rfl (fun j v hj => ?_) ?_
 ·match j, hj with
  | 0, hj => cases hj; simp [boolAt, Mem.cell, Addr.add_lit', set_self]
 ·refine rPl ⟨?_, rfl⟩
  have : ∀ (l : List Int) (b : Bool), l.foldl (fun _ _ => false) b = if l = [] then b else false := fun l => by
   induction l with
   | nil => simp
   | cons a l ih => intro b; simp only [List.foldl_cons, ih]; simp
  rw [this]
  by_cases h : x.vars = [] <;> simp [h]
end
end Go.Vx
namespace Go.Vx
open Go.Proofs Classical
section
variable {μ : Mem}
def InsOf (μ' : Mem) (l : List Int) (n : Int) (v : Value) : Prop := ∃ r : List Int, RepV μ' (.sl 1 (r.map D.i)) v ∧ (∀ x, x ∈ r ↔ x = n ∨ x ∈ l) ∧ r.length ≤ l.length + 1
theorem l02Insert_spec {l : List Int} {v : Value} {n : Int} (hv : RepV μ (.sl 1 (l.map D.i)) v) (hb : l.length ≤ 1000000000) : Spec Tryz.prog 177 [v, .int .i64 n] μ fun v μ' => InsOf μ' l n v := by
 have w_ := Rep.sl hv
 obtain ⟨base, cap, rfl, hsl⟩ := w_
 have hcap := Rep.lens hv
 rw [List.length_map] at hsl hcap hv ⊢
 refine Spec.mk Tryz.func177 (by kernel_rfl) ?_
 refine lIn (fun k : Nat => k ≤ l.length) (fun k => ⟨[(0, .val (.slice base l.length cap)), (1, .val (.int .i64 n)), (5, .val (.int .i64 k))], [], 0, μ, Mem.nil⟩) (fun k => k)
  l.length (Nat.le_refl _) (fun i => ⟨rfl, rfl⟩) ⟨⟨rfl, rfl, rfl, trivial⟩, trivial, rfl, rfl⟩ ?_
 intro k hk
 refine ifd (fun h1 => ?_) (fun h1 => ?_)
 ·have w_ := aSo (l := l) (i := k - 1) (by omega)
  obtain ⟨x, hx⟩ := w_
  have w_ := Ints.elem hsl hx
  obtain ⟨ad, hel⟩ := w_
  refine nEq (x := ((k - 1 : Nat) : Int)) (by rw [wrap64 (by omega) (by omega)]; omega) ?_
  refine eIn hel ?_
  refine ifd (fun h2 => ?_) (fun h2 => ?_)
  ·exact nEq (x := ((k - 1 : Nat) : Int)) (by rw [wrap64 (by omega) (by omega)]; omega) ⟨k - 1, by omega, by omega, ⟨⟨rfl, rfl, rfl, trivial⟩, trivial, rfl, rfl⟩⟩
  ·refine ifd (fun h3 => ?_) (fun h3 => ?_)
   ·have w_ := aSo (l := l) (i := k) (by omega)
    obtain ⟨y, hy⟩ := w_
    have w_ := Ints.elem hsl hy
    obtain ⟨ad2, hel2⟩ := w_
    refine eIn hel2 ?_
    refine ifd (fun h4 => rPl ⟨l, hv, fun x => ⟨.inr, fun hx => hx.elim (fun e => by rw [e, ← h4]; exact mAt hy) id⟩, by omega⟩) (fun h4 => ?_)
    intro r0
    refine cut_intro 0 k rfl rfl (by omega) (by omega) ?_
    refine src_intro _ (Ints.src hsl (a := 0) (b := k) (by omega) hk hcap) ?_
    refine gIn ?_ ?_ fun b1 c1 _ => ?_
    ·show (0 + (ints _).length) * 8 ≤ _; simp [ints]; omega
    ·show 0 + (ints _).length ≤ 9223372036854775807; simp [ints]; omega
    intro r1
    refine gIn ?_ ?_ fun b2 c2 _ => ?_
    ·show (([] ++ ints _).length + 1) * 8 ≤ _; simp [ints]; omega
    ·show ([] ++ ints _).length + 1 ≤ 9223372036854775807; simp [ints]; omega
    refine cut_intro k l.length rfl rfl hk (by omega) ?_
    refine src_intro _ (Ints.src hsl (a := k) (b := l.length) hk (Nat.le_refl _) hcap) ?_
    refine gIn ?_ ?_ fun b3 c3 _ => ?_
    ·show (([] ++ ints _ ++ [_]).length + (ints _).length) * 8 ≤ _; simp [ints]; omega
    ·show ([] ++ ints _ ++ [_]).length + (ints _).length ≤ 9223372036854775807; simp [ints]; omega
    refine rFz [0] fun μ' hle hno hrow => .inl ⟨insInt l n k, ?_, insInt_mem l n k, ?_⟩
    ·have e : [] ++ ints ((l.drop 0).take (k - 0)) ++ [.int .i64 n] ++ ints ((l.drop k).take (l.length - k)) = ints (insInt l n k) := by
      simp [ints, insInt]
      rw [List.take_of_length_le (by simp)]
     rw [e] at hrow ⊢
     exact Ints.sl hrow (Nat.le_trans (m := 2000000000) (by simp [insInt]; omega) (by decide))
    ·simp [insInt]; omega
   ·intro r0
    refine cut_intro 0 k rfl rfl (by omega) (by omega) ?_
    refine src_intro _ (Ints.src hsl (a := 0) (b := k) (by omega) hk hcap) ?_
    refine gIn ?_ ?_ fun b1 c1 _ => ?_
    ·show (0 + (ints _).length) * 8 ≤ _; simp [ints]; omega
    ·show 0 + (ints _).length ≤ 9223372036854775807; simp [ints]; omega
    intro r1
    refine gIn ?_ ?_ fun b2 c2 _ => ?_
    ·show (([] ++ ints _).length + 1) * 8 ≤ _; simp [ints]; omega
    ·show ([] ++ ints _).length + 1 ≤ 9223372036854775807; simp [ints]; omega
    refine cut_intro k l.length rfl rfl hk (by omega) ?_
    refine src_intro _ (Ints.src hsl (a := k) (b := l.length) hk (Nat.le_refl _) hcap) ?_
    refine gIn ?_ ?_ fun b3 c3 _ => ?_
    ·show (([] ++ ints _ ++ [_]).length + (ints _).length) * 8 ≤ _; simp [ints]; omega
    ·show ([] ++ ints _ ++ [_]).length + (ints _).length ≤ 9223372036854775807; simp [ints]; omega
    refine rFz [0] fun μ' hle hno hrow => .inl ⟨insInt l n k, ?_, insInt_mem l n k, ?_⟩
    ·have e : [] ++ ints ((l.drop 0).take (k - 0)) ++ [.int .i64 n] ++ ints ((l.drop k).take (l.length - k)) = ints (insInt l n k) := by
      simp [ints, insInt]
      rw [List.take_of_length_le (by simp)]
     rw [e] at hrow ⊢
     exact Ints.sl hrow (Nat.le_trans (m := 2000000000) (by simp [insInt]; omega) (by decide))
    ·simp [insInt]; omega
 ·refine ifd (fun h3 => ?_) (fun h3 => ?_)
  ·have w_ := aSo (l := l) (i := k) (by omega)
   obtain ⟨y, hy⟩ := w_
   have w_ := Ints.elem hsl hy
   obtain ⟨ad2, hel2⟩ := w_
   refine eIn hel2 ?_
   refine ifd (fun h4 => rPl ⟨l, hv, fun x => ⟨.inr, fun hx => hx.elim (fun e => by rw [e, ← h4]; exact mAt hy) id⟩, by omega⟩) (fun h4 => ?_)
   intro r0
   refine cut_intro 0 k rfl rfl (by omega) (by omega) ?_
   refine src_intro _ (Ints.src hsl (a := 0) (b := k) (by omega) hk hcap) ?_
   refine gIn ?_ ?_ fun b1 c1 _ => ?_
   ·show (0 + (ints _).length) * 8 ≤ _; simp [ints]; omega
   ·show 0 + (ints _).length ≤ 9223372036854775807; simp [ints]; omega
   intro r1
   refine gIn ?_ ?_ fun b2 c2 _ => ?_
   ·show (([] ++ ints _).length + 1) * 8 ≤ _; simp [ints]; omega
   ·show ([] ++ ints _).length + 1 ≤ 9223372036854775807; simp [ints]; omega
   refine cut_intro k l.length rfl rfl hk (by omega) ?_
   refine src_intro _ (Ints.src hsl (a := k) (b := l.length) hk (Nat.le_refl _) hcap) ?_
   refine gIn ?_ ?_ fun b3 c3 _ => ?_
   ·show (([] ++ ints _ ++ [_]).length + (ints _).length) * 8 ≤ _; simp [ints]; omega
   ·show ([] ++ ints _ ++ [_]).length + (ints _).length ≤ 9223372036854775807; simp [ints]; omega
   refine rFz [0] fun μ' hle hno hrow => .inl ⟨insInt l n k, ?_, insInt_mem l n k, ?_⟩
   ·have e : [] ++ ints ((l.drop 0).take (k - 0)) ++ [.int .i64 n] ++ ints ((l.drop k).take (l.length - k)) = ints (insInt l n k) := by
     simp [ints, insInt]
     rw [List.take_of_length_le (by simp)]
    rw [e] at hrow ⊢
    exact Ints.sl hrow (Nat.le_trans (m := 2000000000) (by simp [insInt]; omega) (by decide))
   ·simp [insInt]; omega
  ·intro r0
   refine cut_intro 0 k rfl rfl (by omega) (by omega) ?_
   refine src_intro _ (Ints.src hsl (a := 0) (b := k) (by omega) hk hcap) ?_
   refine gIn ?_ ?_ fun b1 c1 _ => ?_
   ·show (0 + (ints _).length) * 8 ≤ _; simp [ints]; omega
   ·show 0 + (ints _).length ≤ 9223372036854775807; simp [ints]; omega
   intro r1
   refine gIn ?_ ?_ fun b2 c2 _ => ?_
   ·show (([] ++ ints _).length + 1) * 8 ≤ _; simp [ints]; omega
   ·show ([] ++ ints _).length + 1 ≤ 9223372036854775807; simp [ints]; omega
   refine cut_intro k l.length rfl rfl hk (by omega) ?_
   refine src_intro _ (Ints.src hsl (a := k) (b := l.length) hk (Nat.le_refl _) hcap) ?_
   refine gIn ?_ ?_ fun b3 c3 _ => ?_
   ·show (([] ++ ints _ ++ [_]).length + (ints _).length) * 8 ≤ _; simp [ints]; omega
   ·show ([] ++ ints _ ++ [_]).length + (ints _).length ≤ 9223372036854775807; simp [ints]; omega
   refine rFz [0] fun μ' hle hno hrow => .inl ⟨insInt l n k, ?_, insInt_mem l n k, ?_⟩
   ·have e : [] ++ ints ((l.drop 0).take (k - 0)) ++ [.int .i64 n] ++ ints ((l.drop k).take (l.length - k)) = ints (insInt l n k) := by
     simp [ints, insInt]
     rw [List.take_of_length_le (by simp)]
    rw [e] at hrow ⊢
    exact Ints.sl hrow (Nat.le_trans (m := 2000000000) (by simp [insInt]; omega) (by decide))
   ·simp [insInt]; omega
theorem flatMap_take_le {α β : Type} (f : α → List β) (l : List α) (i : Nat) : ((l.take i).flatMap f).length ≤ (l.flatMap f).length := by
 have := congrArg (fun l => (l.flatMap f).length) (List.take_append_drop i l)
 simp only [List.flatMap_append, List.length_append] at this
 omega
theorem T.vars_size : ∀ x : T, x.vars.length ≤ x.size
 | .nil => by simp [T.vars]
 | .var _ => by simp [T.vars, T.size]
 | .sym _ => by simp [T.vars]
 | .num _ => by simp [T.vars]
 | .pair a b => by
  have := T.vars_size a
  have := T.vars_size b
  simp [T.vars, T.size]; omega
def VarsOf (μ' : Mem) (l vs : List Int) (v : Value) : Prop := ∃ r : List Int, RepV μ' (.sl 1 (r.map D.i)) v ∧ (∀ x, x ∈ r ↔ x ∈ vs ∨ x ∈ l) ∧ r.length ≤ l.length + vs.length
theorem l02Vars_spec : ∀ (x : T) {μ : Mem} {l : List Int} {w v : Value}, RepV μ x.tm.d w → RepV μ (.sl 1 (l.map D.i)) v → l.length + x.vars.length ≤ 1000000000 → Spec Tryz.prog 124 [w, v] μ fun v μ' => VarsOf μ' l x.vars v :=
 T.ind fun x ih μ l w v hw hv hb => by
  obtain ⟨base, cap, rfl, hsl⟩ : ∃ base cap, w = .agg #[.int .i64 x.tm.kind, .int .i64 x.tm.num, .string x.tm.name, .slice base x.args.length cap] ∧ Sl μ 4 base x.args.length ((x.args.map T.tm).map Tm.d) := by
   have h1 := Tm.inv (k := x.tm.kind) (n := x.tm.num) (s := x.tm.name) (l := x.tm.args) (v := w) (by cases x <;> exact hw)
   rw [T.tm_args, List.length_map] at h1
   exact h1
  have hn := maxLen_le hsl.max
  refine Spec.mk Tryz.func124 (by kernel_rfl) ?_
  intro r
  refine ifd (fun h => ?_) (fun h => ?_)
  ·have e : x.vars = [x.tm.num] := by cases x <;> simp_all [T.vars, T.tm, Tm.kind, Tm.num]
   refine cPl (l02Insert_spec hv (by omega)) fun v' μ' hle hR => rPl ?_
   obtain ⟨r, h1, h2, h3⟩ := hR
   exact ⟨r, h1, by simpa [e] using h2, by simpa [e] using h3⟩
  have e := T.vars_args h
  refine lIn (fun p : Nat × Value × Mem => p.1 ≤ x.args.length ∧ μ.Le p.2.2 ∧ VarsOf p.2.2 l ((x.args.take p.1).flatMap T.vars) p.2.1)
   (fun (i, v, μ') => ⟨[(1, .val v), (15, .val (.slice base x.args.length cap)), (16, .val (.int .i64 x.args.length)), (17, .val (.int .i64 i))], [], 1, μ', Mem.nil⟩) (fun p => x.args.length - p.1)
   (0, v, μ) ⟨by simp, Mem.Le.refl μ, l, hv, by simp, by simp⟩ (fun (_, _, _) => ⟨rfl, rfl⟩) ⟨⟨rfl, rfl, rfl, rfl, trivial⟩, trivial, rfl, rfl⟩ ?_
  rintro ⟨i, v, μ'⟩ ⟨hi, hle, r, h1, h2, h3⟩
  dsimp only at hi hle h1 h2 h3
  have hpre : ((x.args.take i).flatMap T.vars).length ≤ x.vars.length := by
   rw [e]; exact flatMap_take_le _ _ _
  refine ifd (fun h => ?_) (fun h => ?_)
  ·have w_ := aSo (l := x.args) (i := i) (by omega)
   obtain ⟨t, ht⟩ := w_
   have ht' : (x.args.map T.tm)[i]? = some t.tm := by simp [ht]
   have w_ := Tm.elem (hsl.mono hle) ht'
   obtain ⟨ad, p, hel, hr⟩ := w_
   have hsucc : (x.args.take (i + 1)).flatMap T.vars = (x.args.take i).flatMap T.vars ++ t.vars := by
    rw [List.take_add_one, ht, Option.toList_some, List.flatMap_append]; simp
   have hall : ((x.args.take (i + 1)).flatMap T.vars).length ≤ x.vars.length := by
    rw [e]; exact flatMap_take_le _ _ _
   rw [hsucc, List.length_append] at hall
   refine eIn hel ?_
   intro r2
   refine cPl (ih t (mAt ht) hr h1 (by omega)) fun v' μ'' hle2 hR => ?_
   obtain ⟨q, g1, g2, g3⟩ := hR
   refine num64 (by omega) (by omega) ⟨(i + 1, v', μ''), ⟨by dsimp only; omega, hle.trans hle2, q, g1, fun y => ?_, ?_⟩, by dsimp only; omega, ⟨⟨rfl, rfl, rfl, rfl, trivial⟩, trivial, rfl, rfl⟩⟩
   ·dsimp only
    rw [g2, h2, hsucc, List.mem_append]
    constructor
    ·rintro (h | h | h) <;> simp [h]
    ·rintro ((h | h) | h) <;> simp [h]
   ·dsimp only
    rw [hsucc, List.length_append]; omega
  ·have hi' : i = x.args.length := by omega
   subst hi'
   rw [List.take_length, ← e] at h2 h3
   exact rPl ⟨r, h1, h2, h3⟩
end
end Go.Vx
namespace Go.Vx
open Go.Proofs Classical
section
variable {μ : Mem}
theorem spec_IsGround_spec (x : T) {v : Value} (hv : RepV μ x.tm.d v) (hx : x.ok) (hw : x.tm.d.wd) : Gives Tryz.prog 61 [v] μ (.bool (decide (x.vars = []))) := by
 have w_ := Tm.invV hv
 obtain ⟨p, rfl⟩ := w_
 have := T.vars_size x
 have := hx.2
 refine Spec.forget (Spec.mk Tryz.func61 (by kernel_rfl) ?_)
 intro r
 refine cGv (spec_TermOk_spec x.tm hv hw) ?_
 refine ifd (fun _ => ?_) (fun h => absurd hx.tm h)
 refine cPl (l02Vars_spec x (l := []) hv (Rep.nilSl 1) (by simp; omega)) fun v' μ' hle hR => ?_
 obtain ⟨r, h1, h2, h3⟩ := hR
 have w_ := Rep.sl h1
 obtain ⟨b, c, rfl, _⟩ := w_
 refine rPl (isI ?_)
 rw [List.length_map]
 constructor
 ·intro hh
  have : r = [] := List.eq_nil_of_length_eq_zero (by omega)
  subst this
  cases hx : x.vars with
  | nil => rfl
  | cons a l =>
   have := (h2 a).2 (.inl (by simp [hx]))
   simp at this
 ·intro hh
  rw [hh] at h3
  simp at h3
  rw [h3]; rfl
end
end Go.Vx
namespace Go.Vx
open Go.Proofs Classical
section
variable {μ : Mem}
theorem l04Get_spec {bs : List B} {base : Option Addr} {cap : Nat} {n : Int} (hsl : Sl μ 5 base bs.length ((bs.map B.bd).map Bd.d)) :
  Spec Tryz.prog 178 [.slice base bs.length cap, .int .i64 n] μ fun v μ' => optV (fun y tv => RepV μ y.tm.d tv) (sub bs n) v ∧ μ' = μ := by
 have hn := maxLen_le hsl.max
 refine Spec.mk Tryz.func178 (by kernel_rfl) ?_
 intro r
 refine lIn (fun i : Nat => i ≤ bs.length ∧ sub bs n = sub (bs.drop i) n) (fun i => ⟨[(1, .val (.int .i64 n)), (4, .loc 0 r 0), (8, .val (.slice base bs.length cap)), (9, .val (.int .i64 bs.length)), (10, .val (.int .i64 i))], [(0, some (.cells r [.val (.int .i64 0), .val (.int .i64 0), .val (.string ⟨#[]⟩), .val (.slice none 0 0)] 50))], 1, μ, Mem.nil⟩) (fun i => bs.length - i)
  0 ⟨by omega, rfl⟩ (fun i => ⟨rfl, rfl⟩) ⟨⟨rfl, rfl, rfl, rfl, rfl, trivial⟩, ⟨rfl, trivial⟩, rfl, rfl⟩ ?_
 rintro i ⟨hi, he⟩
 refine ifd (fun h => ?_) (fun h => ?_)
 ·have w_ := aSo (l := bs) (i := i) (by omega)
  obtain ⟨b, hb⟩ := w_
  have hb' : (bs.map B.bd)[i]? = some b.bd := by simp [hb]
  have w_ := Bd.elem hsl hb'
  obtain ⟨ad, p, hel, hr⟩ := w_
  have hto := Bd.toV hr
  rw [drop_at hb] at he
  refine eIn hel ?_
  intro r2
  refine ifd (fun h2 => ?_) (fun h2 => ?_)
  ·have h2 : b.var = n := h2
   have e2 : sub bs n = some b.to := by rw [he, sub, if_pos h2]
   rw [e2]
   exact rPl ⟨⟨_, rfl, hto⟩, rfl⟩
  ·have h2 : ¬ b.var = n := h2
   have e2 : sub bs n = sub (bs.drop (i + 1)) n := by rw [he, sub, if_neg h2]
   exact num64 (by omega) (by omega) ⟨i + 1, ⟨by omega, e2⟩, by omega, ⟨⟨rfl, rfl, rfl, rfl, rfl, trivial⟩, ⟨rfl, trivial⟩, rfl, rfl⟩⟩
 ·obtain rfl : i = bs.length := by omega
  rw [List.drop_length] at he
  rw [he]
  exact rPl ⟨rfl, rfl⟩
theorem l04Put_spec {bs : List B} {base : Option Addr} {cap : Nat} : ∀ (x : T) {μ : Mem} {v : Value}, Sl μ 5 base bs.length ((bs.map B.bd).map Bd.d) → RepV μ x.tm.d v →
  Spec Tryz.prog 126 [.slice base bs.length cap, v] μ fun v μ' => RepV μ' (x.subst (sub bs)).tm.d v := by
 intro x
 induction x with
 | var n =>
  intro μ v hsl hv
  have w_ := Tm.invV hv
  obtain ⟨p, rfl⟩ := w_
  refine Spec.mk Tryz.func126 (by kernel_rfl) ?_
  intro r1 r2
  refine ifd (fun _ => ?_) (fun h => absurd rfl h)
  refine cPl (l04Get_spec hsl) fun v' μ' hle hR => ?_
  obtain ⟨hR, e2⟩ := hR
  obtain rfl := e2.symm
  have hR : optV (fun y tv => RepV μ y.tm.d tv) (sub bs n) v' := hR
  simp only [T.subst]
  cases hs : sub bs n with
  | some y =>
   rw [hs] at hR
   obtain ⟨tv, rfl, htv⟩ := hR
   have w_ := Tm.invV htv
   obtain ⟨q, rfl⟩ := w_
   intro r3
   refine iIn (fun _ => rPl htv) (fun h => nomatch h)
  | none =>
   rw [hs] at hR
   obtain rfl := hR
   intro r3
   refine iIn (fun h => nomatch h) (fun _ => ?_)
   refine ifd (fun h => absurd h (by simp [T.tm, Tm.kind])) (fun _ => ?_)
   exact rPl hv
 | pair a b iha ihb =>
  intro μ v hsl hv
  have w_ := Tm.inv hv
  obtain ⟨base', cap', rfl, hsa⟩ := w_
  have w_ := T.parts hsa
  obtain ⟨ad, ad', p, p', h1, h2, hra, hrb⟩ := w_
  refine Spec.mk Tryz.func126 (by kernel_rfl) ?_
  intro r1 r2
  refine ifd (fun h => absurd h (by simp)) (fun _ => ?_)
  refine ifd (fun _ => ?_) (fun h => absurd rfl h)
  refine eIn h1 ?_
  refine eIn h2 ?_
  refine cPl (iha hsl hra) fun v1 μ1 hle1 hR1 => ?_
  refine cPl (ihb (hsl.mono hle1) (hrb.mono hle1)) fun v2 μ2 hle2 hR2 => ?_
  refine cPl (l02Pair_spec (hR1.mono hle2) hR2) fun v3 μ3 hle3 hR3 => ?_
  have w_ := Tm.invV hR3
  obtain ⟨q, rfl⟩ := w_
  exact rPl hR3
 | _ =>
  intro μ v hsl hv
  have w_ := Tm.invV hv
  obtain ⟨p, rfl⟩ := w_
  refine Spec.mk Tryz.func126 (by kernel_rfl) ?_
  intro r1 r2
  refine ifd (fun h => absurd h (by simp [T.tm, Tm.kind])) (fun _ => ?_)
  refine ifd (fun h => absurd h (by simp [T.tm, Tm.kind])) (fun _ => ?_)
  exact rPl hv
end
end Go.Vx
namespace Go.Vx
open Go.Proofs Classical
theorem sgn_ne (b : Bool) : sgn b ≠ 0 := by cases b <;> simp [sgn]
theorem hdCmp_zero {x y : Tm} {r : Int} : hdCmp x y r = 0 ↔ x.kind = y.kind ∧ x.num = y.num ∧ x.name = y.name ∧ r = 0 := by
 unfold hdCmp
 split
 ·rename_i h; exact ⟨fun k => absurd k (sgn_ne _), fun k => absurd k.1 h⟩
 ·split
  ·rename_i h; exact ⟨fun k => absurd k (sgn_ne _), fun k => absurd k.2.1 h⟩
  ·split
   ·rename_i h; exact ⟨fun k => absurd k (sgn_ne _), fun k => absurd k.2.2.1 h⟩
   ·rename_i h1 h2 h3
    exact ⟨fun k => ⟨Classical.not_not.1 h1, Classical.not_not.1 h2, Classical.not_not.1 h3, k⟩, fun k => k.2.2.2⟩
theorem T.cmp_zero : ∀ x y : T, x.cmp y = 0 ↔ x = y := by
 intro x
 induction x with
 | pair a b iha ihb =>
  intro y
  cases y with
  | pair c d =>
   rw [T.cmp, T.pair.injEq, ← iha, ← ihb]
   split
   ·rename_i h; exact ⟨fun k => ⟨h, k⟩, fun k => k.2⟩
   ·rename_i h; exact ⟨fun k => absurd k h, fun k => absurd k.1 h⟩
  | _ => rw [T.cmp, hdCmp_zero]; simp [T.tm, Tm.kind]
 | _ =>
  intro y
  rw [T.cmp, hdCmp_zero]
  cases y <;> simp [T.tm, Tm.kind, Tm.num, Tm.name]
theorem hd1 {x y : Tm} {r : Int} (h : ¬ x.kind = y.kind) : hdCmp x y r = sgn (decide (x.kind < y.kind)) := by rw [hdCmp, if_pos h]
theorem hd3 {x y : Tm} {r : Int} (h1 : x.kind = y.kind) (h2 : x.num = y.num) (h : ¬ x.name = y.name) : hdCmp x y r = sgn (Op.bytesLess x.name.data.toList y.name.data.toList) := by rw [hdCmp, if_neg (fun k => k h1), if_neg (fun k => k h2), if_pos h]
theorem hd4 {x y : Tm} {r : Int} (h1 : x.kind = y.kind) (h2 : x.num = y.num) (h : x.name = y.name) : hdCmp x y r = r := by rw [hdCmp, if_neg (fun k => k h1), if_neg (fun k => k h2), if_neg (fun k => k h)]
section
variable {μ : Mem}
theorem orderInts_spec (a b : Int) (h : ¬ a = b) : Gives Tryz.prog 213 [.int .i64 a, .int .i64 b] μ (.int .i64 (sgn (decide (a < b)))) := by
 refine Spec.mk Tryz.func213 (by kernel_rfl) ?_
 refine ifd (fun h1 => rGv ?_ rfl) (fun h1 => ?_)
 ·rw [decide_eq_true h1]; rfl
 refine ifd (fun h2 => rGv ?_ rfl) (fun h2 => by omega)
 rw [decide_eq_false h1]; rfl
theorem l02Sign_spec (b : Bool) : Gives Tryz.prog 212 [.bool b] μ (.int .i64 (sgn b)) := by
 refine Spec.mk Tryz.func212 (by kernel_rfl) ?_
 refine iIn (fun h1 => rGv ?_ rfl) (fun h1 => rGv ?_ rfl)
 ·rw [h1]; rfl
 ·rw [h1]; rfl
theorem T.cmp_eq (x y : T) : x.cmp y = hdCmp x.tm y.tm (x.rest y) := by
 cases x with
 | pair a b =>
  cases y with
  | pair c d => rw [T.cmp, hd4 (x := (T.pair a b).tm) (y := (T.pair c d).tm) rfl rfl rfl]; rfl
  | _ => rw [T.cmp]; rfl
 | _ => rw [T.cmp]; rfl
theorem T.rest_at {x y : T} {i : Nat} {p q : T} (h : ∀ j p q, j < i → x.args[j]? = some p → y.args[j]? = some q → p.cmp q = 0) (hp : x.args[i]? = some p) (hq : y.args[i]? = some q) (hne : p.cmp q ≠ 0) : x.rest y = p.cmp q := by
 cases x with
 | pair a b =>
  cases y with
  | pair c d =>
   simp only [T.rest]
   match i, hp, hq with
   | 0, hp, hq => cases hp; cases hq; rw [if_neg hne]
   | 1, hp, hq =>
    cases hp; cases hq
    have := h 0 a c (by omega) rfl rfl
    rw [if_pos this]
   | i + 2, hp, hq => simp [T.args] at hp
  | _ => simp [T.args] at hq
 | _ => simp [T.args] at hp
theorem T.rest_zero {x y : T} (h : ∀ (j : Nat) p q, j < x.args.length → x.args[j]? = some p → y.args[j]? = some q → p.cmp q = 0) : x.rest y = 0 := by
 cases x with
 | pair a b =>
  cases y with
  | pair c d =>
   have h0 := h 0 a c (by simp [T.args]) rfl rfl
   have h1 := h 1 b d (by simp [T.args]) rfl rfl
   simp only [T.rest]
   rw [if_pos h0, h1]
  | _ => rfl
 | _ => rfl
theorem T.args_kind {x y : T} (h : x.tm.kind = y.tm.kind) : x.args.length = y.args.length := by
 cases x <;> cases y <;> simp_all [T.tm, Tm.kind, T.args]
theorem T.kind4 {x : T} (h : x.tm.kind = 4) : ∃ a b, x = .pair a b := by
 cases x <;> simp_all [T.tm, Tm.kind]
theorem T.arg {μ : Mem} {x : T} {base : Option Addr} (h : Sl μ 4 base x.args.length ((x.args.map T.tm).map Tm.d)) {i : Nat} {y : T} (hy : x.args[i]? = some y) : ∃ ad, ∃ p : Option Addr × Nat, ElemAt μ base x.args.length 4 i ad (y.tm.cs p) ∧ RepV μ y.tm.d (.agg (y.tm.cs p).toArray) :=
 Tm.elem h (by simp [hy])
theorem orderTerms_spec : ∀ (x y : T) {v w : Value}, RepV μ x.tm.d v → RepV μ y.tm.d w → Gives Tryz.prog 167 [v, w] μ (.int .i64 (x.cmp y)) :=
 T.ind fun x ih y v w hv hw => by
  have w_ := T.inv hv
  obtain ⟨b1, c1, rfl, hs1⟩ := w_
  have w_ := T.inv hw
  obtain ⟨b2, c2, rfl, hs2⟩ := w_
  rw [T.cmp_eq]
  refine Spec.mk Tryz.func167 (by kernel_rfl) ?_
  intro r1 r2
  refine ifnd (fun h => ?_) (fun h1 => ?_)
  ·exact cGv (orderInts_spec _ _ h) (rGv (by rw [hd1 h]) rfl)
  refine ifnd (fun h => ?_) (fun h2 => ?_)
  ·exact cGv (orderInts_spec _ _ h) (rGv (by rw [hd2 h1 h]) rfl)
  refine ifnd (fun h => ?_) (fun h3 => ?_)
  ·refine iIn (fun h4 => rGv ?_ rfl) (fun h4 => rGv ?_ rfl)
   ·rw [hd3 h1 h2 h, h4]; rfl
   ·rw [hd3 h1 h2 h, h4]; rfl
  rw [hd4 h1 h2 h3]
  refine ifnd (fun h => ?_) (fun h4 => ?_)
  ·refine rGv ?_ rfl
   have : x.rest y = 0 := by cases x <;> first | rfl | exact absurd rfl h
   rw [this]
  have w_ := T.kind4 h4
  obtain ⟨a, b, rfl⟩ := w_
  have w_ := T.kind4 (h1 ▸ h4)
  obtain ⟨c, d, rfl⟩ := w_
  have w_ := T.arg hs1 (i := 0) rfl
  obtain ⟨ad1, p1, e1, g1⟩ := w_
  have w_ := T.arg hs2 (i := 0) rfl
  obtain ⟨ad2, p2, e2, g2⟩ := w_
  have w_ := T.arg hs1 (i := 1) rfl
  obtain ⟨ad3, p3, e3, g3⟩ := w_
  have w_ := T.arg hs2 (i := 1) rfl
  obtain ⟨ad4, p4, e4, g4⟩ := w_
  refine eIn e1 (eIn e2 (cGv (ih a (by simp [T.args]) c g1 g2) ?_))
  simp only [T.rest]
  refine ifnd (fun h => ?_) (fun h5 => ?_)
  ·rw [if_neg h]; exact rGv rfl rfl
  ·rw [if_pos h5]
   exact eIn e3 (eIn e4 (cGv (ih b (by simp [T.args]) d g3 g4) (rGv rfl rfl)))
theorem l02Cmp_spec : ∀ (x y : T) {v w : Value}, RepV μ x.tm.d v → RepV μ y.tm.d w → Gives Tryz.prog 165 [v, w] μ (.int .i64 (x.cmp y)) :=
 T.ind fun x ih y v w hv hw => by
  have w_ := T.inv hv
  obtain ⟨b1, c1, rfl, hs1⟩ := w_
  have w_ := T.inv hw
  obtain ⟨b2, c2, rfl, hs2⟩ := w_
  have hn := T.args_le x
  rw [T.cmp_eq]
  refine Spec.mk Tryz.func165 (by kernel_rfl) ?_
  intro r1 r2
  refine ifnd (fun h => ?_) (fun h1 => ?_)
  ·exact cGv (l02Sign_spec _) (rGv (by rw [hd1 h]) rfl)
  refine ifnd (fun h => ?_) (fun h2 => ?_)
  ·exact cGv (l02Sign_spec _) (rGv (by rw [hd2 h1 h]) rfl)
  refine ifnd (fun h => ?_) (fun h3 => ?_)
  ·exact cGv (l02Sign_spec _) (rGv (by rw [hd3 h1 h2 h]) rfl)
  rw [hd4 h1 h2 h3]
  have hlen := T.args_kind h1
  refine lIn (fun i : Nat => i ≤ x.args.length ∧ ∀ j p q, j < i → x.args[j]? = some p → y.args[j]? = some q → p.cmp q = 0) (fun i => ⟨[(2, .loc 0 r1 0), (3, .loc 1 r2 0), (5, .val (.int .i64 i))], [(0, some (.cells r1 [.val (.int .i64 x.tm.kind), .val (.int .i64 x.tm.num), .val (.string x.tm.name), .val (.slice b1 x.args.length c1)] 50)), (1, some (.cells r2 [.val (.int .i64 y.tm.kind), .val (.int .i64 y.tm.num), .val (.string y.tm.name), .val (.slice b2 y.args.length c2)] 50))], 2, μ, Mem.nil⟩) (fun i => x.args.length - i)
   0 ⟨by omega, fun j p q hj => by omega⟩ (fun i => ⟨rfl, rfl⟩) ⟨⟨rfl, rfl, rfl, trivial⟩, ⟨rfl, rfl, trivial⟩, rfl, rfl⟩ ?_
  rintro i ⟨hi, hz⟩
  refine ifd (fun h => ?_) (fun h => ?_)
  ·refine ifd (fun h' => ?_) (fun h' => by omega)
   have w_ := aSo (l := x.args) (i := i) (by omega)
   obtain ⟨p, hp⟩ := w_
   have w_ := aSo (l := y.args) (i := i) (by omega)
   obtain ⟨q, hq⟩ := w_
   have w_ := T.arg hs1 hp
   obtain ⟨ad1, p1, e1, g1⟩ := w_
   have w_ := T.arg hs2 hq
   obtain ⟨ad2, p2, e2, g2⟩ := w_
   refine eIn e1 (eIn e2 (cGv (ih p (mAt hp) q g1 g2) ?_))
   refine ifnd (fun h5 => ?_) (fun h5 => ?_)
   ·rw [T.rest_at hz hp hq h5]; exact rGv rfl rfl
   ·refine num64 (by omega) (by omega) ⟨i + 1, ⟨by omega, fun j p' q' hj hp' hq' => ?_⟩, by omega, ⟨⟨rfl, rfl, rfl, trivial⟩, ⟨rfl, rfl, trivial⟩, rfl, rfl⟩⟩
    rcases Nat.lt_or_ge j i with h6 | h6
    ·exact hz j p' q' h6 hp' hq'
    ·obtain rfl : j = i := by omega
     rw [hp] at hp'; rw [hq] at hq'; cases hp'; cases hq'; exact h5
  ·obtain rfl : i = x.args.length := by omega
   rw [T.rest_zero hz]
   exact rGv rfl rfl
theorem equalTerms_spec (x y : T) {v w : Value} (hv : RepV μ x.tm.d v) (hw : RepV μ y.tm.d w) : Gives Tryz.prog 117 [v, w] μ (.bool (decide (x = y))) := by
 have w_ := Tm.invV hv
 obtain ⟨p, rfl⟩ := w_
 have w_ := Tm.invV hw
 obtain ⟨q, rfl⟩ := w_
 refine Spec.mk Tryz.func117 (by kernel_rfl) ?_
 intro r1 r2
 exact cGv (orderTerms_spec x y hv hw) (rGv (isI (T.cmp_zero x y)) rfl)
theorem l02Same_spec (x y : T) {v w : Value} (hv : RepV μ x.tm.d v) (hw : RepV μ y.tm.d w) : Gives Tryz.prog 113 [v, w] μ (.bool (decide (x = y))) := by
 have w_ := Tm.invV hv
 obtain ⟨p, rfl⟩ := w_
 have w_ := Tm.invV hw
 obtain ⟨q, rfl⟩ := w_
 refine Spec.mk Tryz.func113 (by kernel_rfl) ?_
 intro r1 r2
 exact cGv (l02Cmp_spec x y hv hw) (rGv (isI (T.cmp_zero x y)) rfl)
end
end Go.Vx
namespace Go.Vx
open Go.Proofs Classical
section
variable {μ : Mem}
def insAt {α : Type} (l : List α) (x : α) (k : Nat) : List α := l.take k ++ ([x] ++ l.drop k)
theorem insAt_mem {α : Type} (l : List α) (x y : α) (k : Nat) : y ∈ insAt l x k ↔ y = x ∨ y ∈ l := by
 have h2 : y ∈ l ↔ y ∈ l.take k ∨ y ∈ l.drop k := by rw [← List.mem_append, List.take_append_drop]
 simp only [insAt, List.mem_append, List.mem_singleton, h2]
 constructor
 ·rintro (h | h | h) <;> simp [h]
 ·rintro (h | h | h) <;> simp [h]
theorem insAt_length {α : Type} (l : List α) (x : α) (k : Nat) : (insAt l x k).length = l.length + 1 := by
 have := congrArg List.length (List.take_append_drop k l)
 simp only [insAt, List.length_append, List.length_singleton] at *
 omega
end
end Go.Vx
namespace Go.Vx
open Go.Proofs Classical
section
variable {μ : Mem}
variable {μ1 μ' : Mem}
theorem Mem.nil_join (g : Mem) : Mem.nil.join g = g := rfl
end
end Go.Vx
namespace Go.Vx
open Go.Proofs Classical
inductive Pf where
 | mk (rel : ByteArray) (clause : Int) (values : List Tm) (kids : List Pf)
def Pf.rel : Pf → ByteArray | .mk a _ _ _ => a
def Pf.clause : Pf → Int | .mk _ a _ _ => a
def Pf.values : Pf → List Tm | .mk _ _ a _ => a
def Pf.kids : Pf → List Pf | .mk _ _ _ a => a
theorem Pf.ind {q : Pf → Prop} (h : ∀ x : Pf, (∀ y ∈ x.kids, q y) → q x) : ∀ x, q x
 | .mk a0 a1 a2 a3 => h _ fun y hy => have _ := hy; Pf.ind h y
termination_by x => x
decreasing_by all_goals (first | exact Nat.lt_of_lt_of_le (List.sizeOf_lt_of_mem hy) (by simp only [Pf.kids, Pf.mk.sizeOf_spec]; omega) | decreasing_tactic)
mutual
def Pf.d : Pf → D
 | .mk a0 a1 a2 a3 => .st [.s a0, .i a1, .sl 4 (a2.map Tm.d), .sl 4 (Pf.ds a3)]
def Pf.ds : List Pf → List D
 | [] => []
 | t :: r => t.d :: Pf.ds r
end
theorem Pf.ds_map : ∀ l : List Pf, Pf.ds l = l.map Pf.d
 | [] => rfl
 | t :: r => by simp [Pf.ds, Pf.ds_map r]
theorem Pf.d_eq (x : Pf) : x.d = .st [.s x.rel, .i x.clause, .sl 4 (x.values.map Tm.d), .sl 4 (x.kids.map Pf.d)] := by
 cases x
 rw [Pf.d, Pf.ds_map]
 rfl
theorem Pf.d_n (x : Pf) : x.d.n = 4 := by
 rw [Pf.d_eq]
 simp only [D.n, D.ns]
abbrev Pf.P := (Option Addr × Nat) × (Option Addr × Nat)
def Pf.cs (x : Pf) (p : Pf.P) : List Value := [.string x.rel, .int .i64 x.clause, .slice p.1.1 x.values.length p.1.2, .slice p.2.1 x.kids.length p.2.2]
section
variable {μ : Mem}
def Pf.At (μ : Mem) (x : Pf) (p : Pf.P) : Prop := Sl μ 4 p.1.1 x.values.length (x.values.map Tm.d) ∧ Sl μ 4 p.2.1 x.kids.length (x.kids.map Pf.d)
theorem Pf.invA {x : Pf} {cs : List Value} (h : Rep μ x.d cs) : ∃ p : Pf.P, cs = x.cs p ∧ Pf.At μ x p := by
 rw [Pf.d_eq] at h
 obtain ⟨a0, t0, rfl, h0, h⟩ := h
 have h0 : a0 = [.string x.rel] := h0
 subst h0
 obtain ⟨a1, t1, rfl, h1, h⟩ := h
 have h1 : a1 = [.int .i64 x.clause] := h1
 subst h1
 obtain ⟨a2, t2, rfl, h2, h⟩ := h
 obtain ⟨v2, rfl⟩ := one_of (Rep.len _ _ h2)
 obtain ⟨b2, c2, rfl, s2⟩ := Rep.sl h2
 rw [List.length_map] at s2
 obtain ⟨a3, t3, rfl, h3, h⟩ := h
 obtain ⟨v3, rfl⟩ := one_of (Rep.len _ _ h3)
 obtain ⟨b3, c3, rfl, s3⟩ := Rep.sl h3
 rw [List.length_map] at s3
 obtain rfl : t3 = [] := h
 exact ⟨((b2, c2), (b3, c3)), by simp [Pf.cs], ⟨s2, s3⟩⟩
theorem Pf.rep {x : Pf} {cs : List Value} (h : Rep μ x.d cs) : RepV μ x.d (.agg cs.toArray) := by
 rw [Pf.d_eq] at h ⊢; exact ⟨cs, rfl, h⟩
theorem Pf.invR {x : Pf} {cs : List Value} (h : Rep μ x.d cs) : ∃ p : Pf.P, cs = x.cs p ∧ RepV μ x.d (.agg (x.cs p).toArray) := by
 obtain ⟨p, e, _⟩ := Pf.invA h
 subst e
 exact ⟨p, rfl, Pf.rep h⟩
theorem Pf.inv {x : Pf} {v : Value} (h : RepV μ x.d v) : ∃ p : Pf.P, v = .agg #[.string x.rel, .int .i64 x.clause, .slice p.1.1 x.values.length p.1.2, .slice p.2.1 x.kids.length p.2.2] ∧ Pf.At μ x p := by
 have h2 : ∃ cs, v = .agg (List.toArray cs) ∧ Rep μ x.d cs := by rw [Pf.d_eq] at h ⊢; exact h
 obtain ⟨cs, rfl, h3⟩ := h2
 obtain ⟨p, rfl, hA⟩ := Pf.invA h3
 exact ⟨p, rfl, hA⟩
theorem Pf.invV {x : Pf} {v : Value} (h : RepV μ x.d v) : ∃ p : Pf.P, v = .agg #[.string x.rel, .int .i64 x.clause, .slice p.1.1 x.values.length p.1.2, .slice p.2.1 x.kids.length p.2.2] := by
 obtain ⟨p, h, _⟩ := Pf.inv h
 exact ⟨p, h⟩
theorem Pf.elemA {l : List Pf} {base : Option Addr} {n : Nat} (h : Sl μ 4 base n (l.map Pf.d)) {i : Nat} {x : Pf} (hx : l[i]? = some x) : ∃ ad, ∃ p : Pf.P, ElemAt μ base n 4 i ad (x.cs p) ∧ RepV μ x.d (.agg (x.cs p).toArray) ∧ Pf.At μ x p := by
 obtain ⟨ad, cs, h1, h2⟩ := h.get i x.d (by simp [hx])
 obtain ⟨p, rfl, hA⟩ := Pf.invA h2
 exact ⟨ad, p, h1, Pf.rep h2, hA⟩
theorem Pf.elem {l : List Pf} {base : Option Addr} {n : Nat} (h : Sl μ 4 base n (l.map Pf.d)) {i : Nat} {x : Pf} (hx : l[i]? = some x) : ∃ ad, ∃ p : Pf.P, ElemAt μ base n 4 i ad (x.cs p) ∧ RepV μ x.d (.agg (x.cs p).toArray) := by
 obtain ⟨ad, p, h1, h2, _⟩ := Pf.elemA h hx
 exact ⟨ad, p, h1, h2⟩
theorem Pf.ownR {x : Pf} {h : Mem} {cs : List Value} (k : Own x.d h cs) : ∃ p : Pf.P, cs = x.cs p ∧ ∃ g1 g2, Parts h g1 g2 ∧ OwnV (.sl 4 (x.values.map Tm.d)) g1 (.slice p.1.1 x.values.length p.1.2) ∧ OwnV (.sl 4 (x.kids.map Pf.d)) g2 (.slice p.2.1 x.kids.length p.2.2) := by
 rw [Pf.d_eq] at k
 obtain ⟨a0, t0, h0, r0, rfl, q0, o0, k⟩ := k
 obtain ⟨rfl, rfl⟩ := o0
 obtain rfl := q0.eq (Parts.nil_left _)
 obtain ⟨a1, t1, h1, r1, rfl, q1, o1, k⟩ := k
 obtain ⟨rfl, rfl⟩ := o1
 obtain rfl := q1.eq (Parts.nil_left _)
 obtain ⟨a2, t2, h2, r2, rfl, q2, o2, k⟩ := k
 obtain ⟨v2, rfl⟩ := one_of (Own.len o2)
 obtain ⟨b2, c2, rfl⟩ := Own.sl o2
 rw [List.length_map] at o2
 obtain ⟨a3, t3, h3, r3, rfl, q3, o3, k⟩ := k
 obtain ⟨v3, rfl⟩ := one_of (Own.len o3)
 obtain ⟨b3, c3, rfl⟩ := Own.sl o3
 rw [List.length_map] at o3
 obtain ⟨rfl, rfl⟩ := k
 obtain rfl := q3.eq (Parts.nil_right _)
 exact ⟨((b2, c2), (b3, c3)), by simp [Pf.cs], ⟨_, _, q2, o2, o3⟩⟩
theorem Pf.sz_eq (x : Pf) : x.d.sz = x.rel.size + (x.values.length + D.szs (x.values.map Tm.d)) + (x.kids.length + D.szs (x.kids.map Pf.d)) := by
 rw [Pf.d_eq]
 simp [D.sz, D.szs]
 omega
theorem szProofS_of {l : List Pf} (he : ∀ t ∈ l, ∀ {v : Value} {left : Int}, RepV μ t.d v → 0 ≤ left → left ≤ 1048576 → t.d.wd → Gives Tryz.prog 31 [v, .int .i64 left] μ (.int .i64 (szR left t.d.sz)))
  {base : Option Addr} {cap : Nat} {left : Int} (hsl : Sl μ 4 base l.length (l.map Pf.d)) (hl : 0 ≤ left) (hl2 : left ≤ 1048576) (hw : D.wds (l.map Pf.d)) :
  Gives Tryz.prog 88 [.slice base l.length cap, .int .i64 left] μ (.int .i64 (szR left (l.length + D.szs (l.map Pf.d)))) := by
 have hn := maxLen_le hsl.max
 refine Spec.mk Tryz.func88 (by kernel_rfl) ?_
 refine num64 (by omega) (by omega) (ifd (fun h => rGv ?_ rfl) (fun h => ?_))
 ·rw [szR_neg (by omega)]
 refine lIn (fun i : Nat => i ≤ l.length ∧ (D.szs ((l.map Pf.d).take i) : Int) ≤ left - l.length) (fun i => ⟨[(0, .val (.slice base l.length cap)), (1, .val (.int .i64 (left - l.length - D.szs ((l.map Pf.d).take i)))), (5, .val (.int .i64 i))], [], 0, μ, Mem.nil⟩) (fun i => l.length - i)
  0 ⟨by omega, by simp [D.szs]; omega⟩ (fun i => ⟨rfl, rfl⟩) ⟨⟨rfl, by show some (SV.val (.int .i64 _)) = some (SV.val (.int .i64 _)); congr 3; simp [D.szs], rfl, trivial⟩, trivial, rfl, rfl⟩ ?_
 rintro i ⟨hi, hz⟩
 refine ifd (fun h => ?_) (fun h => ?_)
 ·obtain ⟨t, ht⟩ := aSo (l := l) (i := i) (by omega)
  have hx := at_map (f := Pf.d) ht
  have hs := D.szs_take hx
  have hs' := D.szs_le (l.map Pf.d) (i + 1)
  obtain ⟨ad, p, hel, hr⟩ := Pf.elem hsl ht
  refine eIn hel (cGv (he t (mAt ht) hr (by omega) (by omega) (D.wds_mem hw _ (mAt hx))) ?_)
  refine ifd (fun h => rGv ?_ rfl) (fun h => ?_)
  ·have := szR_lt h
   rw [szR_neg (by omega)]
  ·have := szR_ge h
   refine num64 (by omega) (by omega) ⟨i + 1, ⟨by omega, by omega⟩, by omega, ⟨⟨rfl, ?_, rfl, trivial⟩, trivial, rfl, rfl⟩⟩
   rw [szR_pos this, hs]
   show some (SV.val (.int .i64 _)) = some (SV.val (.int .i64 _))
   congr 3; omega
 ·obtain rfl : i = l.length := by omega
  rw [List.take_of_length_le (by simp)] at hz ⊢
  refine rGv ?_ rfl
  rw [szR_pos (by omega)]; congr 1; omega
theorem szProof_spec : ∀ (x : Pf) {v : Value} {left : Int}, RepV μ x.d v → 0 ≤ left → left ≤ 1048576 → x.d.wd → Gives Tryz.prog 31 [v, .int .i64 left] μ (.int .i64 (szR left x.d.sz)) :=
 Pf.ind fun x ih v left hv hl hl2 hw => by
  obtain ⟨p, rfl, hA⟩ := Pf.inv hv
  have hsz := Pf.sz_eq x
  rw [Pf.d_eq] at hw
  obtain ⟨A0, A1⟩ := hA
  have m0 := maxLen_le hw.1
  refine Spec.mk Tryz.func31 (by kernel_rfl) ?_
  intro r
  refine num64 (by omega) (by omega) (ifd (fun h => rGv (by rw [szR_neg (by omega)]) rfl) (fun h => ?_))
  refine cGv (szTermS_spec A0 (by omega) (by omega) hw.2.2.1) ?_
  refine ifd (fun h => rGv (by have := szR_lt h; rw [szR_neg (by omega)]) rfl) (fun h => ?_)
  have q2 := szR_ge h
  rw [szR_pos q2] at h ⊢
  refine cGv (szProofS_of (l := x.kids) (fun t ht _ _ => ih t ht) A1 (by omega) (by omega) hw.2.2.2.1) ?_
  refine ifd (fun h => rGv (by have := szR_lt h; rw [szR_neg (by omega)]) rfl) (fun h => ?_)
  have q3 := szR_ge h
  rw [szR_pos q3] at h ⊢
  refine rGv ?_ rfl
  rw [szR_pos (by omega)]
  first | rfl | (congr 1; omega)
theorem toProofS_of {l : List Pf} (he : ∀ t ∈ l, ∀ {μ : Mem} {v : Value}, RepV μ t.d v → t.d.sz ≤ 1048576 → Spec Tryz.prog 33 [v] μ fun v μ' => Fresh μ μ' t.d v)
  {base : Option Addr} {cap : Nat} (hsl : Sl μ 4 base l.length (l.map Pf.d)) (hb : l.length + D.szs (l.map Pf.d) ≤ 1048576) :
  Spec Tryz.prog 91 [.slice base l.length cap] μ fun v μ' => Fresh μ μ' (.sl 4 (l.map Pf.d)) v := by
 refine Spec.mk Tryz.func91 (by kernel_rfl) ?_
 refine make_intro l.length rfl rfl (by simp only; omega) (Nat.le_trans (m := 1048576) (by omega) (by decide)) ?_
 intro r
 refine lIn (fun p : Nat × List Value × Mem => μ.Le p.2.2 ∧ ∃ g, Filled 4 (.agg #[.string ⟨#[]⟩, .int .i64 0, .slice none 0 0, .slice none 0 0]) μ p.2.2 (l.map Pf.d) p.1 p.2.1 g)
  (fun (i, xs, μ') => ⟨[(0, .val (.slice base l.length cap)), (3, .row 0 (some r) l.length l.length), (4, .val (.int .i64 i))], [(0, some (.row (some r) l.length 67 4 xs))], 1, μ', Mem.nil⟩) (fun p => l.length - p.1)
  (0, List.replicate l.length (.agg #[.string ⟨#[]⟩, .int .i64 0, .slice none 0 0, .slice none 0 0]), μ) ⟨Mem.Le.refl μ, _, Filled.start (by simp)⟩ (fun (_, _, _) => ⟨rfl, rfl⟩) ⟨⟨rfl, rfl, rfl, trivial⟩, ⟨rfl, trivial⟩, rfl, rfl⟩ ?_
 rintro ⟨i, xs, μ'⟩ ⟨hle, g, hf⟩
 dsimp only at hle hf
 have hi := hf.le
 have hlen := hf.len
 rw [List.length_map] at hi hlen
 refine ifd (fun h => ?_) (fun h => ?_)
 ·obtain ⟨t, ht⟩ := aSo (l := l) (i := i) (by omega)
  have hx := at_map (f := Pf.d) ht
  have hs := D.szs_mem hx
  obtain ⟨ad, p, hel, hr⟩ := Pf.elem (hsl.mono hle) ht
  refine eIn hel (cPl (he t (mAt ht) hr (by omega)) fun v μ'' hle2 hfr => ?_)
  obtain ⟨g', hf'⟩ := hf.step hx (Pf.d_n t) hfr hle2
  obtain ⟨p2, rfl⟩ := Pf.invV hfr.rep
  refine rel_intro i rfl (by omega) ?_
  refine get_intro _ (hf.rest i (by omega) (by simpa using h)) ?_
  refine num64 (by omega) (by omega) ⟨(i + 1, _, μ''), ⟨hle.trans hle2, g', hf'⟩, by dsimp only; omega, ⟨⟨rfl, rfl, rfl, trivial⟩, ⟨rfl, trivial⟩, rfl, rfl⟩⟩
 ·obtain rfl : i = l.length := by omega
  refine rFz [0] fun μ2 hle2 hno hrow => .inl ?_
  have := Fresh.ofRow (hf.all (by simp)) hf.sub hf.new hle hle2 hno hrow (Nat.le_trans (m := 1048576) (by omega) (by decide))
  rw [hlen] at this
  exact this
set_option maxRecDepth 4000 in
theorem toProof_spec : ∀ (x : Pf) {μ : Mem} {v : Value}, RepV μ x.d v → x.d.sz ≤ 1048576 → Spec Tryz.prog 33 [v] μ fun v μ' => Fresh μ μ' x.d v :=
 Pf.ind fun x ih μ v hv hb => by
  obtain ⟨p, rfl, hA⟩ := Pf.inv hv
  have hsz := Pf.sz_eq x
  obtain ⟨A0, A1⟩ := hA
  refine Spec.mk Tryz.func33 (by kernel_rfl) ?_
  intro r1 r2 r3
  refine cPl (toTermS_spec A0 (by omega)) fun u0 μ0 hle0 hf0 => ?_
  replace A1 := A1.mono hle0
  obtain ⟨bb0, cc0, rfl, _⟩ := Rep.sl hf0.rep
  refine cPl (toProofS_of (l := x.kids) (fun t ht _ _ => ih t ht) A1 (by omega)) fun u1 μ1 hle1 hf1 => ?_
  obtain ⟨bb1, cc1, rfl, _⟩ := Rep.sl hf1.rep
  rw [Pf.d_eq]
  exact rPl (FreshS.st (FreshS.str (FreshS.int (FreshS.cons hf0 hle0 (hle1) (FreshS.cons hf1 hle1 (Mem.Le.refl _) (FreshS.nil))))))
theorem eqProofS_of {l : List Pf} (he : ∀ t ∈ l, ∀ {v v' : Value}, RepV μ t.d v → RepV μ t.d v' → Gives Tryz.prog 35 [v, v'] μ (.bool true))
  {base base' : Option Addr} {cap cap' : Nat} (hl : Sl μ 4 base l.length (l.map Pf.d)) (hl' : Sl μ 4 base' l.length (l.map Pf.d)) :
  Gives Tryz.prog 96 [.slice base l.length cap, .slice base' l.length cap'] μ (.bool true) := by
 have hn := maxLen_le hl.max
 refine Spec.mk Tryz.func96 (by kernel_rfl) ?_
 refine ifnd (fun h => absurd rfl h) (fun _ => ?_)
 refine lIn (fun i : Nat => i ≤ l.length) (fun i => ⟨[(0, .val (.slice base l.length cap)), (1, .val (.slice base' l.length cap')), (5, .val (.int .i64 i))], [], 0, μ, Mem.nil⟩) (fun i => l.length - i)
  0 (by omega) (fun i => ⟨rfl, rfl⟩) ⟨⟨rfl, rfl, rfl, trivial⟩, trivial, rfl, rfl⟩ ?_
 intro i hi
 refine ifd (fun h => ?_) (fun h => ?_)
 ·obtain ⟨t, ht⟩ := aSo (l := l) (i := i) (by omega)
  obtain ⟨ad, p, hel, hr⟩ := Pf.elem hl ht
  obtain ⟨ad', p', hel', hr'⟩ := Pf.elem hl' ht
  refine eIn hel (eIn hel' (cGv (he t (mAt ht) hr hr') ?_))
  refine iIn (fun h => nomatch h) (fun _ => ?_)
  exact num64 (by omega) (by omega) ⟨i + 1, by omega, by omega, ⟨⟨rfl, rfl, rfl, trivial⟩, trivial, rfl, rfl⟩⟩
 ·exact rGv rfl rfl
theorem eqProof_spec : ∀ (x : Pf) {v v' : Value}, RepV μ x.d v → RepV μ x.d v' → Gives Tryz.prog 35 [v, v'] μ (.bool true) :=
 Pf.ind fun x ih v v' hv hv' => by
  obtain ⟨p, rfl, hA⟩ := Pf.inv hv
  obtain ⟨p', rfl, hB⟩ := Pf.inv hv'
  obtain ⟨A0, A1⟩ := hA
  obtain ⟨B0, B1⟩ := hB
  refine Spec.mk Tryz.func35 (by kernel_rfl) ?_
  intro r1 r2
  refine ifnd (fun h => absurd rfl h) (fun _ => ?_)
  refine ifnd (fun h => absurd rfl h) (fun _ => ?_)
  refine cGv (eqTermS_spec A0 B0) ?_
  refine iIn (fun h => nomatch h) (fun _ => ?_)
  refine cGv (eqProofS_of (l := x.kids) (fun t ht _ _ => ih t ht) A1 B1) ?_
  refine iIn (fun h => nomatch h) (fun _ => ?_)
  exact rGv rfl rfl
theorem Pf.mk_eq (x : Pf) (k : Int) : x.d.mk k = (.st [.s (mtext (k)), .i (k + 1), .sl 4 (D.mks (x.values.map Tm.d) (k + 1 + 1)).1, .sl 4 (D.mks (x.kids.map Pf.d) ((D.mks (x.values.map Tm.d) (k + 1 + 1)).2)).1], (D.mks (x.kids.map Pf.d) ((D.mks (x.values.map Tm.d) (k + 1 + 1)).2)).2) := by
 rw [Pf.d_eq]
 simp only [D.mk, D.mks]
theorem Pf.cnt_eq (x : Pf) : x.d.cnt = 2 + D.cnts (x.values.map Tm.d) + D.cnts (x.kids.map Pf.d) := by
 rw [Pf.d_eq]
 simp only [D.cnt, D.cnts]
 omega
set_option maxHeartbeats 1000000 in
theorem markProofS_of {l : List Pf} (he : ∀ t ∈ l, ∀ {h : Mem} {v : Value} {k : Int}, OwnV (.sl 4 (t.kids.map Pf.d)) h v → 0 ≤ k → k + D.cnts (t.kids.map Pf.d) ≤ 9223372036854775807 →
   SpecH Tryz.prog 97 [v, .int .i64 k] μ h fun r μ' h' => r = .int .i64 (D.mks (t.kids.map Pf.d) k).2 ∧ μ' = μ ∧ OwnV (.sl 4 (D.mks (t.kids.map Pf.d) k).1) h' v)
  {h : Mem} {v : Value} {k : Int} (ho : OwnV (.sl 4 (l.map Pf.d)) h v) (hk : 0 ≤ k) (hk2 : k + D.cnts (l.map Pf.d) ≤ 9223372036854775807) :
  SpecH Tryz.prog 97 [v, .int .i64 k] μ h fun r μ' h' => r = .int .i64 (D.mks (l.map Pf.d) k).2 ∧ μ' = μ ∧ OwnV (.sl 4 (D.mks (l.map Pf.d) k).1) h' v := by
 obtain ⟨base, cap, e, hm, hn, ho⟩ := ho
 simp only [List.cons.injEq, and_true] at e
 subst e
 have hm' : (l.map Pf.d).length ≤ 9223372036854775807 := Nat.le_trans hm.max (by decide)
 refine SpecH.mk [] Tryz.func97 (by kernel_rfl) ?_
 rcases ho with ⟨hnil, rfl⟩ | ⟨r, flat, rest, ty, h2, rfl, hr, rfl, ho⟩
 ·rw [hnil]
  refine lIn (fun i : Nat => i = 0) (fun i => ⟨[(0, .val (.slice base 0 cap)), (1, .val (.int .i64 k)), (5, .val (.int .i64 i))], [], 0, μ, Mem.nil⟩) (fun i => 0 - i)
   0 rfl (fun i => ⟨rfl, rfl⟩) ⟨⟨rfl, rfl, rfl, trivial⟩, trivial, rfl, rfl⟩ ?_
  rintro i rfl
  refine ifd (fun h => by omega) (fun h => rPl ⟨rfl, rfl, base, cap, rfl, ⟨Nat.zero_le _, Nat.zero_le _⟩, by simp [D.mks], .inl ⟨rfl, rfl⟩⟩)
 ·generalize hxs : l.map Pf.d = xs at *
  refine lIn (fun p : Nat × List Value × List Value × Mem => Marking xs k rest r p.1 p.2.1 p.2.2.1 p.2.2.2)
   (fun (i, pre, tail, hh) => ⟨[(0, .val (.slice (some ⟨r, 0, none⟩) xs.length cap)), (1, .val (.int .i64 (D.mks (xs.take i) k).2)), (5, .val (.int .i64 i))], [], 0, μ, hh.set r (.cells (List.toArray (pre ++ tail)) ty (0, 0))⟩) (fun p => xs.length - p.1)
   (0, [], flat ++ rest, h2) (Marking.start hr ho) (fun (_, _, _, _) => ⟨rfl, rfl⟩) ⟨⟨rfl, rfl, rfl, trivial⟩, trivial, rfl, rfl⟩ ?_
  rintro ⟨i, pre, tail, hh⟩ M
  dsimp only at M
  have hi := M.le
  have hge := D.mks_cnt (xs.take i) k
  refine ifd (fun h => ?_) (fun h => ?_)
  ·obtain ⟨x, ht⟩ := aSo (l := l) (i := i) (by rw [← hxs] at h; simp at h; omega)
   have hx : xs[i]? = some x.d := by rw [← hxs]; simp [ht]
   obtain ⟨c, g, m, c2, rfl, hown, hp, hmr, back⟩ := M.next hx
   obtain ⟨p, rfl, ch⟩ := Pf.ownR hown
   have hlen := M.len hn
   have hcnt := Marking.cnt (k := k) hx
   rw [Pf.cnt_eq] at hcnt
   generalize hk0 : (D.mks (xs.take i) k).2 = k0 at *
   have hs0 := D.mks_cnt (x.values.map Tm.d) (k0 + 1 + 1)
   have hs1 := D.mks_cnt (x.kids.map Pf.d) ((D.mks (x.values.map Tm.d) (k0 + 1 + 1)).2)
   obtain ⟨g1, g2, q0, ch0, ch1⟩ := ch
   have q1 := Parts.nil_right g2
   have P0 := hp.symm
   have R0 := M.out
   refine cGv (markText_spec _ (by omega)) ?_
   refine ptr_intro ⟨r, 0, none⟩ rfl (by omega) (by omega) ?_
   refine sto_at (j := 0) (by simp [Addr.add_lit', hlen]) (by simp [Pf.cs]) ?_
   refine num64 (by omega) (by omega) ?_
   refine ptr_intro ⟨r, 0, none⟩ rfl (by omega) (by omega) ?_
   refine sto_at (j := 1) (by simp [Addr.add_lit', hlen]) (by simp [Pf.cs]) ?_
   refine num64 (by omega) (by omega) ?_
   refine ptr_intro ⟨r, 0, none⟩ rfl (by omega) (by omega) ?_
   refine own_at (j := 2) (by simp [Addr.add_lit', hlen]) rfl ?_
   obtain ⟨mm0, st0⟩ := mark_step R0 P0 q0
   refine cOw (SpecH.frame (st0 _).1 (markTermS_spec ch0 (by omega) (by omega))) fun v0 μ0 H0 hle0 hap0 hR0 => ?_
   obtain ⟨y0, ⟨rfl, eμ0, oo0⟩, pp0⟩ := hR0
   subst eμ0
   obtain ⟨M1, hh1, rfl, R1, n0, ap0, mj0, P1⟩ := (st0 _).2 _ _ pp0
   refine ptr_intro ⟨r, 0, none⟩ rfl (by omega) (by omega) ?_
   refine own_at (j := 3) (by simp [Addr.add_lit', hlen]) rfl ?_
   obtain ⟨mm1, st1⟩ := mark_step R1 P1 q1
   refine cOw (SpecH.frame (st1 _).1 (he x (mAt ht) ch1 (by omega) (by omega))) fun v1 μ1 H1 hle1 hap1 hR1 => ?_
   obtain ⟨y1, ⟨rfl, eμ1, oo1⟩, pp1⟩ := hR1
   subst eμ1
   obtain ⟨M2, hh2, rfl, R2, n1, ap1, mj1, P2⟩ := (st1 _).2 _ _ pp1
   have e1 := P2.eq (Parts.nil_right _)
   subst e1
   obtain ⟨gg, u1, u2⟩ := mj1.assoc mj0
   have e2 := u2.is_join
   subst e2
   have PP := u1.symm
   have hmk := D.mks_take hx k
   have hmk2 := Pf.mk_eq x k0
   rw [hk0] at hmk
   refine num64 (by omega) (by omega) ⟨(i + 1, pre ++ [.string (mtext (k0)), .int .i64 (k0 + 1), .slice p.1.1 x.values.length p.1.2, .slice p.2.1 x.kids.length p.2.2], c2 ++ rest, Mem.join gg m), back _ _ u2.apart (u1.none_of n1 n0) ?_, by dsimp only; omega, ⟨⟨rfl, ?_, rfl, trivial⟩, trivial, rfl, ?_⟩⟩
   ·rw [hmk2]
    exact OwnS.str (OwnS.int (OwnS.cons (c1 := [_]) PP oo0 (OwnS.last oo1)))
   ·rw [hmk, hmk2]
    rfl
   ·simp [Pf.cs]
  ·have hi' : i = xs.length := by omega
   subst hi'
   obtain ⟨rfl, o1⟩ := M.last
   refine rPl ⟨by rw [List.take_length], rfl, some ⟨r, 0, none⟩, cap, by rw [D.mks_length], by rw [D.mks_length]; exact hm, D.mks_size k hn, .inr ⟨r, pre, tail, ty, hh, rfl, M.out, rfl, o1⟩⟩
theorem markProofS_spec {l : List Pf} {h : Mem} {v : Value} {k : Int} (ho : OwnV (.sl 4 (l.map Pf.d)) h v) (hk : 0 ≤ k) (hk2 : k + D.cnts (l.map Pf.d) ≤ 9223372036854775807) :
  SpecH Tryz.prog 97 [v, .int .i64 k] μ h fun r μ' h' => r = .int .i64 (D.mks (l.map Pf.d) k).2 ∧ μ' = μ ∧ OwnV (.sl 4 (D.mks (l.map Pf.d) k).1) h' v :=
 Pf.ind (q := fun t => ∀ {h : Mem} {v : Value} {k : Int}, OwnV (.sl 4 (t.kids.map Pf.d)) h v → 0 ≤ k → k + D.cnts (t.kids.map Pf.d) ≤ 9223372036854775807 →
   SpecH Tryz.prog 97 [v, .int .i64 k] μ h fun r μ' h' => r = .int .i64 (D.mks (t.kids.map Pf.d) k).2 ∧ μ' = μ ∧ OwnV (.sl 4 (D.mks (t.kids.map Pf.d) k).1) h' v)
  (fun _ ih _ _ _ => markProofS_of fun t ht _ _ _ => ih t ht) (.mk ⟨#[]⟩ 0 [] l) ho hk hk2
set_option maxHeartbeats 1000000 in
theorem heldProofS_of {l : List Pf} (he : ∀ t ∈ l, ∀ {v : Value} {k : Int}, RepV μ (.sl 4 (D.mks (t.kids.map Pf.d) k).1) v → 0 ≤ k → k + D.cnts (t.kids.map Pf.d) ≤ 9223372036854775807 →
   Gives Tryz.prog 98 [v, .int .i64 k] μ (.int .i64 (D.mks (t.kids.map Pf.d) k).2))
  {v : Value} {k : Int} (ho : RepV μ (.sl 4 (D.mks (l.map Pf.d) k).1) v) (hk : 0 ≤ k) (hk2 : k + D.cnts (l.map Pf.d) ≤ 9223372036854775807) :
  Gives Tryz.prog 98 [v, .int .i64 k] μ (.int .i64 (D.mks (l.map Pf.d) k).2) := by
 obtain ⟨base, cap, rfl, hsl⟩ := Rep.sl ho
 have hm' := Nat.le_trans hsl.max (show maxLen ≤ 9223372036854775807 by decide)
 rw [D.mks_length] at hm' hsl ⊢
 refine Spec.mk Tryz.func98 (by kernel_rfl) ?_
 generalize hxs : l.map Pf.d = xs at *
 refine lIn (fun i : Nat => i ≤ xs.length) (fun i => ⟨[(0, .val (.slice base xs.length cap)), (1, .val (.int .i64 (D.mks (xs.take i) k).2)), (5, .val (.int .i64 i))], [], 0, μ, Mem.nil⟩) (fun i => xs.length - i)
  0 (by simp) (fun i => ⟨rfl, rfl⟩) ⟨⟨rfl, rfl, rfl, trivial⟩, trivial, rfl, rfl⟩ ?_
 intro i hi
 have hge := D.mks_cnt (xs.take i) k
 refine ifd (fun h => ?_) (fun h => ?_)
 ·obtain ⟨x, ht⟩ := aSo (l := l) (i := i) (by rw [← hxs] at h; simp at h; omega)
  have hx : xs[i]? = some x.d := by rw [← hxs]; simp [ht]
  have hcnt := Marking.cnt (k := k) hx
  rw [Pf.cnt_eq] at hcnt
  obtain ⟨ad, cs, hel, hcs⟩ := hsl.get i _ (D.mks_get hx k)
  have hmk := D.mks_take hx k
  generalize hk0 : (D.mks (xs.take i) k).2 = k0 at *
  have hmk2 := Pf.mk_eq x k0
  rw [hmk2] at hcs
  obtain ⟨_, _, rfl, rfl, _, _, rfl, rfl, cc0, _, rfl, hh0, cc1, _, rfl, hh1, rfl⟩ := hcs
  obtain ⟨vv0, rfl⟩ := one_of (Rep.len _ _ hh0)
  have hv0 := hh0
  obtain ⟨bb0, kk0, rfl, _⟩ := Rep.sl hv0
  have hs0 := D.mks_cnt (x.values.map Tm.d) (k0 + 1 + 1)
  obtain ⟨vv1, rfl⟩ := one_of (Rep.len _ _ hh1)
  have hv1 := hh1
  obtain ⟨bb1, kk1, rfl, _⟩ := Rep.sl hv1
  have hs1 := D.mks_cnt (x.kids.map Pf.d) ((D.mks (x.values.map Tm.d) (k0 + 1 + 1)).2)
  refine eIn hel ?_
  refine cGv (markText_spec _ (by omega)) ?_
  refine ifnd (fun h => absurd rfl h) fun _ => ?_
  refine num64 (by omega) (by omega) ?_
  refine eIn hel ?_
  refine ifnd (fun h => absurd rfl h) fun _ => ?_
  refine num64 (by omega) (by omega) ?_
  refine eIn hel ?_
  refine cGv (heldTermS_spec hh0 (by omega) (by omega)) ?_
  refine ifd (fun h => absurd h (by omega)) (fun _ => ?_)
  refine eIn hel ?_
  refine cGv (he x (mAt ht) hh1 (by omega) (by omega)) ?_
  refine ifd (fun h => absurd h (by omega)) (fun _ => ?_)
  exact num64 (by omega) (by omega) ⟨i + 1, by omega, by omega, ⟨⟨rfl, by rw [hmk, hmk2]; rfl, rfl, trivial⟩, trivial, rfl, rfl⟩⟩
 ·have hi' : i = xs.length := by omega
  subst hi'
  rw [List.take_length]
  exact rGv rfl rfl
theorem heldProofS_spec {l : List Pf} {v : Value} {k : Int} (ho : RepV μ (.sl 4 (D.mks (l.map Pf.d) k).1) v) (hk : 0 ≤ k) (hk2 : k + D.cnts (l.map Pf.d) ≤ 9223372036854775807) :
  Gives Tryz.prog 98 [v, .int .i64 k] μ (.int .i64 (D.mks (l.map Pf.d) k).2) :=
 Pf.ind (q := fun t => ∀ {v : Value} {k : Int}, RepV μ (.sl 4 (D.mks (t.kids.map Pf.d) k).1) v → 0 ≤ k → k + D.cnts (t.kids.map Pf.d) ≤ 9223372036854775807 →
   Gives Tryz.prog 98 [v, .int .i64 k] μ (.int .i64 (D.mks (t.kids.map Pf.d) k).2))
  (fun _ ih _ _ => heldProofS_of fun t ht _ _ => ih t ht) (.mk ⟨#[]⟩ 0 [] l) ho hk hk2
theorem Pf.mt_eq (x : Pf) (k : Int) : x.d.mt k = (.st [.s x.rel, .i x.clause, .sl 4 (D.mks (x.values.map Tm.d) (k)).1, .sl 4 (D.mks (x.kids.map Pf.d) ((D.mks (x.values.map Tm.d) (k)).2)).1], (D.mks (x.kids.map Pf.d) ((D.mks (x.values.map Tm.d) (k)).2)).2) := by
 rw [Pf.d_eq]
 simp only [D.mt, D.mts]
theorem markProof_spec (x : Pf) {h : Mem} {v : Value} {k : Int} (ho : OwnV x.d h v) (hk : 0 ≤ k) (hk2 : k + (D.cnts (x.values.map Tm.d) + D.cnts (x.kids.map Pf.d)) ≤ 9223372036854775807) :
  SpecH Tryz.prog 36 [v, .int .i64 k] μ h fun r μ' h' => r = .int .i64 (x.d.mt k).2 ∧ μ' = μ ∧ OwnV (x.d.mt k).1 h' v := by
 have ho2 : ∃ cs, v = .agg (List.toArray cs) ∧ Own x.d h cs := by rw [Pf.d_eq] at ho ⊢; exact ho
 obtain ⟨cs, rfl, ho2⟩ := ho2
 obtain ⟨p, rfl, ch⟩ := Pf.ownR ho2
 rw [Pf.mt_eq]
 have hs0 := D.mks_cnt (x.values.map Tm.d) (k)
 have hs1 := D.mks_cnt (x.kids.map Pf.d) ((D.mks (x.values.map Tm.d) (k)).2)
 refine SpecH.mk [] Tryz.func36 (by kernel_rfl) ?_
 intro r
 obtain ⟨g1, g2, q0, ch0, ch1⟩ := ch
 refine cOw (SpecH.frame q0 (markTermS_spec ch0 (by omega) (by omega))) fun v μ1 h1 hle hap hR => ?_
 obtain ⟨y0, ⟨rfl, e, oo0⟩, pp0⟩ := hR
 subst e
 refine cOw (SpecH.frame pp0.symm (markProofS_spec ch1 (by omega) (by omega))) fun v μ2 h2 hle hap hR => ?_
 obtain ⟨y1, ⟨rfl, e, oo1⟩, pp1⟩ := hR
 subst e
 have PP := pp1.symm
 exact rPl ⟨rfl, rfl, _, rfl, OwnS.str (OwnS.int (OwnS.cons (c1 := [_]) PP oo0 (OwnS.last oo1)))⟩
theorem heldProof_spec (x : Pf) {v : Value} {k : Int} (ho : RepV μ (x.d.mt k).1 v) (hk : 0 ≤ k) (hk2 : k + (D.cnts (x.values.map Tm.d) + D.cnts (x.kids.map Pf.d)) ≤ 9223372036854775807) :
  Gives Tryz.prog 37 [v, .int .i64 k] μ (.int .i64 (x.d.mt k).2) := by
 rw [Pf.mt_eq] at ho ⊢
 obtain ⟨_, rfl, _, _, rfl, rfl, _, _, rfl, rfl, cc0, _, rfl, hh0, cc1, _, rfl, hh1, rfl⟩ := ho
 obtain ⟨vv0, rfl⟩ := one_of (Rep.len _ _ hh0)
 have hv0 := hh0
 obtain ⟨bb0, kk0, rfl, _⟩ := Rep.sl hv0
 have hs0 := D.mks_cnt (x.values.map Tm.d) (k)
 obtain ⟨vv1, rfl⟩ := one_of (Rep.len _ _ hh1)
 have hv1 := hh1
 obtain ⟨bb1, kk1, rfl, _⟩ := Rep.sl hv1
 have hs1 := D.mks_cnt (x.kids.map Pf.d) ((D.mks (x.values.map Tm.d) (k)).2)
 refine Spec.mk Tryz.func37 (by kernel_rfl) ?_
 intro r
 refine cGv (heldTermS_spec hh0 (by omega) (by omega)) ?_
 refine ifd (fun h => absurd h (by omega)) (fun _ => ?_)
 refine cGv (heldProofS_spec hh1 (by omega) (by omega)) ?_
 refine ifd (fun h => absurd h (by omega)) (fun _ => ?_)
 exact rGv rfl rfl
theorem read_Proof : Reads Tryz.prog 63 fun d => ∃ x : Pf, d = x.d ∧ x.d.wd := fun n => by
 induction n using Nat.strongRecOn with
 | ind n ih =>
  match n, ih with
  | 0, _ => exact ReadsTo.zero _
  | n + 1, ih =>
   have hs : ReadsTo Tryz.prog n 61 fun d => ∃ xs, d = .sl 4 xs ∧ ∀ x ∈ xs, ∃ t : Pf, x = t.d ∧ t.d.wd := by
    match n, ih with
    | 0, _ => exact ReadsTo.zero _
    | n + 1, ih => exact reads_slice ti61.kind (cellsOf_tt ti63) (ih n (by omega)) (fun d h => by obtain ⟨t, rfl, _⟩ := h; exact Pf.d_n t)
   exact (reads_struct ti63 rfl (FieldsTo.cons ti9 (reads_str und_string n) (FieldsTo.cons ti3 (reads_int und_int n) (FieldsTo.cons ti22 (read_TermS n) (FieldsTo.cons ti61 (hs) FieldsTo.nil))))).weaken fun d h => by
    obtain ⟨ds, rfl, h⟩ := h
    obtain ⟨_, _, rfl, ⟨x0, rfl, w0⟩, q0⟩ := h.cons
    obtain ⟨_, _, rfl, ⟨x1, rfl, w1⟩, q1⟩ := q0.cons
    obtain ⟨_, _, rfl, ⟨x2, rfl, w2⟩, q2⟩ := q1.cons
    obtain ⟨_, _, rfl, ⟨xs, rfl, hxs⟩, q3⟩ := q2.cons
    obtain ⟨x3, rfl⟩ := lift_list (f := Pf.d) fun x h => by obtain ⟨t, h, _⟩ := hxs x h; exact ⟨t, h⟩
    have w3 : D.wds (x3.map Pf.d) := D.wds_of fun x hm => by obtain ⟨t, rfl, h⟩ := hxs x hm; exact h
    obtain rfl := q3.nil
    refine ⟨.mk x0 x1 x2 x3, (Pf.d_eq (.mk x0 x1 x2 x3)).symm, ?_⟩
    rw [Pf.d_eq]
    exact ⟨w0, w1, w2, w3, trivial⟩
end
end Go.Vx
namespace Go.Vx
open Go.Proofs Classical
theorem Gl.cnts_len : ∀ (xs : List Gl), xs.length ≤ Gl.cnts xs
 | [] => by simp
 | x :: xs => by
  have h1 := x.cnt_pos
  have h2 := Gl.cnts_len xs
  simp only [Gl.cnts, List.length_cons]; omega
section
variable {μ : Mem}
end
end Go.Vx
namespace Go.Vx
open Go.Proofs Classical
section
variable {μ : Mem}
theorem l13Put_spec {bs : List B} {b0 : Option Addr} {c0 : Nat} : ∀ (g : Gl) {μ : Mem} {v : Value}, RepV μ g.d v → g.Sh → Sl μ 5 b0 bs.length ((bs.map B.bd).map Bd.d) → Spec Tryz.prog 65 [v, .slice b0 bs.length c0] μ fun v μ' => RepV μ' (g.put (sub bs)).d v :=
 Gl.ind fun g ih μ v hv hS hsl => by
  have w_ := Gl.inv hv
  obtain ⟨p, rfl, hts, hgs⟩ := w_
  have w_ := lift_ok hS.top.tm
  obtain ⟨xs, hxs, hok⟩ := w_
  have hg8 := hS.top.gl
  have hx4 : xs.length ≤ 4 := by
   have T := hS.top
   have e9 := T.ln9; have e2 := T.ln2; have e1 := T.ln1; have e0 := T.ln0; have k0 := T.k0; have k1 := T.k1
   have : g.terms.length = xs.length := by rw [hxs, List.length_map]
   omega
  have hput : (g.put (sub bs)).d = .st [.i g.kind, .s g.name, .sl 4 (((xs.map (T.subst (sub bs))).map T.tm).map Tm.d), .sl 4 ((g.goals.map (Gl.put (sub bs))).map Gl.d)] := by
   rw [Gl.d_eq, Gl.put_kind, Gl.put_name, Gl.put_goals, Gl.put_terms, hxs]
   simp [List.map_map, Function.comp_def, T.toT_tm]
  rw [hxs, List.length_map] at hts ⊢
  refine Spec.mk Tryz.func65 (by kernel_rfl) ?_
  intro r1 r2 r3
  refine loop_nil (fun p : Nat × Option Nat × Nat × List Value × Mem => p.1 ≤ xs.length ∧ μ.Le p.2.2.2.2 ∧ Rows p.2.2.2.2 4 ((((xs.take p.1).map (T.subst (sub bs))).map T.tm).map Tm.d) p.2.2.2.1)
   (fun (i, b, c, ys, μ') => ⟨[(1, .val (.slice b0 bs.length c0)), (2, .loc 0 r1 0), (4, .loc 1 r2 0), (5, .loc 2 r3 0), (16, .val (.slice p.1.1 xs.length p.1.2)), (17, .val (.int .i64 xs.length)), (18, .val (.int .i64 i))],
    [(0, some (.cells r1 [.val (.int .i64 g.kind), .val (.string g.name), .val (.slice p.1.1 xs.length p.1.2), .val (.slice p.2.1 g.goals.length p.2.2)] 30)), (1, some (.cells r2 [.val (.int .i64 0), .val (.string ⟨#[]⟩), .val (.slice none 0 0), .val (.slice none 0 0)] 30)), (2, some (.cells r3 [.val (.int .i64 g.kind), .val (.string g.name), .row 3 b ys.length c, .val (.slice none 0 0)] 30)), (3, some (.row b c 50 4 ys))], 4, μ', Mem.nil⟩) (fun p => xs.length - p.1)
   (0, none, 0, [], μ) ⟨by simp, Mem.Le.refl _, .nil⟩ (fun (_, _, _, _, _) => ⟨rfl, rfl⟩) ⟨⟨⟨_, rfl, .inl rfl⟩, ⟨_, rfl, .inl rfl⟩, ⟨_, rfl, .inl rfl⟩, ⟨_, rfl, .inl rfl⟩, ⟨_, rfl, .inl rfl⟩, ⟨_, rfl, .inl rfl⟩, ⟨_, rfl, .inl rfl⟩, trivial⟩, ⟨.inl rfl, .inl rfl, .inr (.inr ⟨_, _, _, _, rfl, rfl, .inl rfl, .inl rfl, .inr ⟨3, rfl, rfl, Nat.le_refl _⟩, .inl rfl, trivial⟩), .inr (.inl ⟨_, _, rfl, Nat.le_refl _⟩), trivial⟩, rfl, rfl⟩ ?_
  rintro ⟨i, b, c, ys, μ'⟩ ⟨hi, hle, hrows⟩
  dsimp only at hi hle hrows
  have hlen := hrows.len
  simp only [List.length_map, List.length_take] at hlen
  refine ifd (fun h => ?_) (fun h => ?_)
  ·have w_ := aSo (l := xs) (i := i) (by omega)
   obtain ⟨t, ht⟩ := w_
   have ht' : (xs.map T.tm)[i]? = some t.tm := by simp [ht]
   have w_ := Tm.elem (hts.mono hle) ht'
   obtain ⟨ad, p3, hel, hr⟩ := w_
   refine eIn hel ?_
   intro r4
   refine cPl (l04Put_spec t (hsl.mono hle) hr) fun v' μ'' hle2 hR => ?_
   have w_ := Tm.invV hR
   obtain ⟨q, rfl⟩ := w_
   intro r5
   refine gIn ?_ ?_ fun b' c' _ => ?_
   ·show (ys.length + 1) * 56 ≤ _; omega
   ·exact Nat.le_trans (m := 100000000) (show ys.length + 1 ≤ _ by omega) (by decide)
   refine num64 (by omega) (by omega) ⟨(i + 1, b', c', _, μ''), ⟨by dsimp only; omega, hle.trans hle2, ?_⟩, by dsimp only; omega, ⟨⟨rfl, rfl, rfl, rfl, rfl, rfl, rfl, trivial⟩, ⟨rfl, rfl, rfl, rfl, trivial⟩, rfl, rfl⟩⟩
   dsimp only
   rw [List.take_add_one, ht, Option.toList_some]
   simp only [List.map_append, List.map_cons, List.map_nil]
   exact (hrows.mono hle2).append (Rows.one hR (Tm.d_n _))
  ·obtain rfl : i = xs.length := by omega
   rw [List.take_length] at hrows
   have hgs1 := hgs.mono hle
   refine loop_nil (fun p : Nat × Option Nat × Nat × List Value × Mem => p.1 ≤ g.goals.length ∧ μ'.Le p.2.2.2.2 ∧ Rows p.2.2.2.2 4 (((g.goals.take p.1).map (Gl.put (sub bs))).map Gl.d) p.2.2.2.1)
    (fun (i, b2, c2, zs, μ'') => ⟨[(1, .val (.slice b0 bs.length c0)), (4, .loc 1 r2 0), (5, .loc 2 r3 0), (32, .val (.slice p.2.1 g.goals.length p.2.2)), (33, .val (.int .i64 g.goals.length)), (34, .val (.int .i64 i))],
     [(1, some (.cells r2 [.val (.int .i64 0), .val (.string ⟨#[]⟩), .val (.slice none 0 0), .val (.slice none 0 0)] 30)), (2, some (.cells r3 [.val (.int .i64 g.kind), .val (.string g.name), .row 3 b ys.length c, .row 4 b2 zs.length c2] 30)), (3, some (.row b c 50 4 ys)), (4, some (.row b2 c2 30 4 zs))], 5, μ'', Mem.nil⟩) (fun p => g.goals.length - p.1)
    (0, none, 0, [], μ') ⟨by simp, Mem.Le.refl _, .nil⟩ (fun (_, _, _, _, _) => ⟨rfl, rfl⟩) ⟨⟨⟨_, rfl, .inl rfl⟩, ⟨_, rfl, .inl rfl⟩, ⟨_, rfl, .inl rfl⟩, ⟨_, rfl, .inl rfl⟩, ⟨_, rfl, .inl rfl⟩, ⟨_, rfl, .inl rfl⟩, trivial⟩, ⟨.inl rfl, .inr (.inr ⟨_, _, _, _, rfl, rfl, .inl rfl, .inl rfl, .inl rfl, .inr ⟨4, rfl, rfl, Nat.le_refl _⟩, trivial⟩), .inl rfl, .inr (.inl ⟨_, _, rfl, Nat.le_refl _⟩), trivial⟩, rfl, rfl⟩ ?_
   rintro ⟨i, b2, c2, zs, μ''⟩ ⟨hi, hle3, hrows2⟩
   dsimp only at hi hle3 hrows2
   have hlen2 := hrows2.len
   simp only [List.length_map, List.length_take] at hlen2
   refine ifd (fun h => ?_) (fun h => ?_)
   ·have w_ := aSo (l := g.goals) (i := i) (by omega)
    obtain ⟨t, ht⟩ := w_
    have w_ := Gl.elem (hgs1.mono hle3) ht
    obtain ⟨ad, p3, hel, hr⟩ := w_
    refine eIn hel ?_
    intro r4
    refine cPl (ih t (mAt ht) hr (hS.sub t (mAt ht)) ((hsl.mono hle).mono hle3)) fun v' μ3 hle4 hR => ?_
    have w_ := Gl.invV hR
    obtain ⟨q, rfl⟩ := w_
    intro r5
    refine gIn ?_ ?_ fun b' c' _ => ?_
    ·show (zs.length + 1) * 72 ≤ _; omega
    ·exact Nat.le_trans (m := 100000000) (show zs.length + 1 ≤ _ by omega) (by decide)
    refine num64 (by omega) (by omega) ⟨(i + 1, b', c', _, μ3), ⟨by dsimp only; omega, hle3.trans hle4, ?_⟩, by dsimp only; omega, ⟨⟨rfl, rfl, rfl, rfl, rfl, rfl, trivial⟩, ⟨rfl, rfl, rfl, rfl, trivial⟩, rfl, rfl⟩⟩
    dsimp only
    rw [List.take_add_one, ht, Option.toList_some]
    simp only [List.map_append, List.map_cons, List.map_nil]
    exact (hrows2.mono hle4).append (Rows.one hR (Gl.d_n _))
   ·obtain rfl : i = g.goals.length := by omega
    rw [List.take_length] at hrows2
    refine rFz [3, 4] fun μ2 hle5 hno hrow => fun μ3 hle6 hno2 hrow2 => .inl ?_
    rw [hput]
    exact ⟨_, rfl, RepS.int (RepS.str (RepS.cons1 ((Rows.sl hrow (((hrows.mono hle3)).mono hle5) (Nat.le_trans (m := 100000000) (by omega) (by decide))).mono hle6) (RepS.last (Rows.sl hrow2 ((hrows2.mono hle5).mono hle6) (Nat.le_trans (m := 100000000) (by omega) (by decide))))))⟩
end
end Go.Vx
namespace Go.Vx
open Go.Proofs Classical
def T.hasSym (s : ByteArray) : T → Prop
 | .sym a => a = s
 | .pair a b => a.hasSym s ∨ b.hasSym s
 | .nil => False
 | .var _ => False
 | .num _ => False
theorem T.hasSym_args (s : ByteArray) (x : T) : x.hasSym s ↔ (x.tm.kind = 2 ∧ x.tm.name = s) ∨ ∃ y ∈ x.args, y.hasSym s := by
 cases x <;> simp [T.hasSym, T.tm, Tm.kind, Tm.name, T.args]
section
variable {μ : Mem}
theorem l10Contains_spec (s : ByteArray) : ∀ (x : T) {v : Value}, RepV μ x.tm.d v → Gives Tryz.prog 166 [v, .string s] μ (.bool (decide (x.hasSym s))) :=
 T.ind fun x ih v hv => by
  have w_ := T.inv hv
  obtain ⟨base, cap, rfl, hsl⟩ := w_
  have hn := maxLen_le hsl.max
  refine Spec.mk Tryz.func166 (by kernel_rfl) ?_
  intro r
  refine lIn (fun i : Nat => i ≤ x.args.length ∧ ∀ j y, j < i → x.args[j]? = some y → ¬ y.hasSym s)
   (fun i => ⟨[(1, .val (.string s)), (2, .loc 0 r 0), (8, .val (.slice base x.args.length cap)), (9, .val (.int .i64 x.args.length)), (10, .val (.int .i64 i))], [(0, some (.cells r [.val (.int .i64 x.tm.kind), .val (.int .i64 x.tm.num), .val (.string x.tm.name), .val (.slice base x.args.length cap)] 50))], 1, μ, Mem.nil⟩) (fun i => x.args.length - i)
   0 ⟨by omega, fun j y hj => by omega⟩ (fun _ => ⟨rfl, rfl⟩) ⟨⟨rfl, rfl, rfl, rfl, rfl, trivial⟩, ⟨rfl, trivial⟩, rfl, rfl⟩ ?_
  rintro i ⟨hi, hno⟩
  refine ifd (fun h => ?_) (fun h => ?_)
  ·have w_ := aSo (l := x.args) (i := i) (by omega)
   obtain ⟨t, ht⟩ := w_
   have w_ := T.arg hsl ht
   obtain ⟨ad, p, hel, hto⟩ := w_
   refine eIn hel ?_
   intro r2
   refine cGv (ih t (mAt ht) hto) ?_
   refine ifd (fun hy => rGv (isT ((T.hasSym_args s x).2 (.inr ⟨t, mAt ht, hy⟩))) rfl) (fun hy => ?_)
   refine num64 (by omega) (by omega) ⟨i + 1, ⟨by omega, fun j y hj hy2 => ?_⟩, by omega, ⟨⟨rfl, rfl, rfl, rfl, rfl, trivial⟩, ⟨rfl, trivial⟩, rfl, rfl⟩⟩
   rcases Nat.lt_or_ge j i with h6 | h6
   ·exact hno j y h6 hy2
   ·obtain rfl : j = i := by omega
    rw [ht] at hy2; cases hy2; exact hy
  ·obtain rfl : i = x.args.length := by omega
   have hn2 : ¬ ∃ y ∈ x.args, y.hasSym s := fun ⟨y, hy, h2⟩ => by
    have w_ := List.mem_iff_getElem?.1 hy
    obtain ⟨j, hj⟩ := w_
    exact hno j y (List.getElem?_eq_some_iff.1 hj).1 hj h2
   refine ifd (fun h2 => ?_) (fun h2 => rGv (isF fun k => ((T.hasSym_args s x).1 k).elim (fun k => h2 k.1) hn2) rfl)
   refine rGv ?_ rfl
   congr 1
   rw [Bool.eq_iff_iff, decide_eq_true_eq, decide_eq_true_eq]
   exact ⟨fun k => (T.hasSym_args s x).2 (.inl ⟨h2, k⟩), fun k => ((T.hasSym_args s x).1 k).elim (fun k => k.2) fun k => absurd k hn2⟩
theorem hasSymbol_spec (s : ByteArray) : ∀ (x : T) {v : Value}, RepV μ x.tm.d v → Gives Tryz.prog 120 [v, .string s] μ (.bool (decide (x.hasSym s))) :=
 T.ind fun x ih v hv => by
  have w_ := T.inv hv
  obtain ⟨b1, c1, rfl, hs1⟩ := w_
  refine Spec.mk Tryz.func120 (by kernel_rfl) ?_
  intro r
  refine ifd (fun h4 => ?_) (fun h4 => ?_)
  ·have w_ := T.kind4 h4
   obtain ⟨a, b, rfl⟩ := w_
   have w_ := T.arg hs1 (i := 0) rfl
   obtain ⟨ad1, p1, e1, g1⟩ := w_
   have w_ := T.arg hs1 (i := 1) rfl
   obtain ⟨ad3, p3, e3, g3⟩ := w_
   refine eIn e1 (cGv (ih a (by simp [T.args]) g1) ?_)
   refine ifd (fun h => rGv (isT (.inl h)) rfl) (fun h => ?_)
   refine eIn e3 (cGv (ih b (by simp [T.args]) g3) (rGv ?_ rfl))
   congr 1
   rw [Bool.eq_iff_iff, decide_eq_true_eq, decide_eq_true_eq]
   exact ⟨.inr, fun k => k.elim (fun k => absurd k h) id⟩
  ·have hno : ¬ ∃ y ∈ x.args, y.hasSym s := fun ⟨y, hy, _⟩ => by
    cases x <;> first | (simp [T.args] at hy; done) | exact h4 rfl
   refine ifd (fun h2 => rGv ?_ rfl) (fun h2 => rGv (isF fun k => ((T.hasSym_args s x).1 k).elim (fun k => h2 k.1) hno) rfl)
   congr 1
   rw [Bool.eq_iff_iff, decide_eq_true_eq, decide_eq_true_eq]
   exact ⟨fun k => (T.hasSym_args s x).2 (.inl ⟨h2, k⟩), fun k => ((T.hasSym_args s x).1 k).elim (fun k => k.2) fun k => absurd k hno⟩
end
end Go.Vx
namespace Go.Vx
open Go.Sort
section
variable {α : Type} {lt : α → α → Bool}
end
section
variable {α : Type} [Inhabited α] {lt : α → α → Bool} {d c R : Array α}
section
variable {s m e : Nat}
theorem Rot.up {a i : Nat} (h : Rot a (a + 1) (i + 1) d c) (ha : a ≤ i) (hi : i + 1 < d.size) : Rot a (a + 1) (i + 2) d (swp c i (i + 1)) := by
 have g : ∀ k, (swp c i (i + 1))[k]! = if k = i + 1 then c[i]! else if k = i then c[i + 1]! else c[k]! := fun k => swp_get c (by rw [h.size]; omega) (by rw [h.size]; omega) k
 refine ⟨by rw [Go.Sort.swp_size, h.size], fun k hk => ?_, fun t ht => ?_, fun t ht => ?_⟩
 ·rw [g, if_neg (by omega), if_neg (by omega), h.out k (by omega)]
 ·rw [g, if_neg (by omega)]
  by_cases e : a + t = i
  ·rw [if_pos e, h.out _ (by omega), show a + 1 + t = i + 1 by omega]
  ·rw [if_neg e, h.lo t (by omega)]
 ·obtain rfl : t = 0 := by omega
  rw [g, if_pos (by omega)]
  have := h.hi 0 (by omega)
  rwa [show a + (i + 1 - (a + 1)) + 0 = i by omega] at this
end
end
end Go.Vx
namespace Go.Vx
open Go.Proofs Classical
theorem lexI_zero {p q : Int} : lexI p q = 0 ↔ p = 0 ∧ q = 0 := by unfold lexI; split <;> omega
theorem lexI_anti {p q p' q' : Int} (h1 : p < 0 ↔ 0 < p') (h2 : p' < 0 ↔ 0 < p) (h3 : p = 0 → (q < 0 ↔ 0 < q')) : lexI p q < 0 ↔ 0 < lexI p' q' := by
 unfold lexI
 split
 ·rename_i h
  rw [if_pos (by omega)]; exact h3 h
 ·rw [if_neg (by omega)]; exact h1
theorem lexI_trans {p1 q1 p2 q2 p3 q3 : Int} (t : p1 < 0 → p2 < 0 → p3 < 0) (e1 : p1 = 0 → p3 = p2) (e2 : p2 = 0 → p3 = p1) (r : p1 = 0 → p2 = 0 → q1 < 0 → q2 < 0 → q3 < 0) : lexI p1 q1 < 0 → lexI p2 q2 < 0 → lexI p3 q3 < 0 := by
 unfold lexI
 intro h1 h2
 by_cases k1 : p1 = 0
 ·rw [if_pos k1] at h1
  have := e1 k1
  by_cases k2 : p2 = 0
  ·rw [if_pos k2] at h2
   rw [if_pos (by omega)]; exact r k1 k2 h1 h2
  ·rw [if_neg k2] at h2
   rw [if_neg (by omega)]; omega
 ·rw [if_neg k1] at h1
  by_cases k2 : p2 = 0
  ·have := e2 k2
   rw [if_neg (by omega)]; omega
  ·rw [if_neg k2] at h2
   have := t h1 h2
   rw [if_neg (by omega)]; exact this
theorem Ord3.lex_trans {α : Type} {c : α → α → Int} (h : Ord3 c) {x y z : α} {q1 q2 q3 : Int} (r : x = y → y = z → q1 < 0 → q2 < 0 → q3 < 0) : lexI (c x y) q1 < 0 → lexI (c y z) q2 < 0 → lexI (c x z) q3 < 0 :=
 lexI_trans (h.trans x y z) (fun e => by rw [(h.zero _ _).1 e]) (fun e => by rw [(h.zero _ _).1 e]) fun e1 e2 => r ((h.zero _ _).1 e1) ((h.zero _ _).1 e2)
theorem Ord3.lex_anti {α : Type} {c : α → α → Int} (h : Ord3 c) {x y : α} {q q' : Int} (r : x = y → (q < 0 ↔ 0 < q')) : lexI (c x y) q < 0 ↔ 0 < lexI (c y x) q' :=
 lexI_anti (h.anti x y) (h.anti y x) fun e => r ((h.zero _ _).1 e)
theorem cInt_ord : Ord3 cInt where
 zero x y := by
  unfold cInt sgn
  by_cases h : x = y
  ·simp [h]
  ·by_cases g : x < y <;> simp [h, g]
 anti x y := by
  unfold cInt sgn
  by_cases h : x = y
  ·simp [h]
  ·rw [if_neg h, if_neg (Ne.symm h)]
   by_cases g : x < y
   ·have g2 : ¬ y < x := by omega
    simp [g, g2]
   ·have g2 : y < x := by omega
    simp [g, g2]
 trans x y z := by
  unfold cInt sgn
  by_cases h : x = y <;> by_cases h2 : y = z <;> by_cases h3 : x = z <;> by_cases g : x < y <;> by_cases g2 : y < z <;> by_cases g3 : x < z <;> simp [h, h2, h3, g, g2, g3] <;> omega
theorem bl_irrefl : ∀ l : List UInt8, Op.bytesLess l l = false
 | [] => rfl
 | a :: l => by rw [Op.bytesLess]; simp [bl_irrefl l]
theorem bl_trans : ∀ x y z : List UInt8, Op.bytesLess x y = true → Op.bytesLess y z = true → Op.bytesLess x z = true
 | x, y, [], h1, h2 => by simp [Op.bytesLess] at h2
 | x, [], c :: z, h1, h2 => by cases x <;> simp [Op.bytesLess] at h1
 | [], b :: y, c :: z, h1, h2 => rfl
 | a :: x, b :: y, c :: z, h1, h2 => by
  simp only [Op.bytesLess, Bool.or_eq_true, decide_eq_true_eq, Bool.and_eq_true, beq_iff_eq] at h1 h2 ⊢
  rcases h1 with h1 | ⟨rfl, h1⟩
  ·rcases h2 with h2 | ⟨rfl, h2⟩
   ·exact .inl (UInt8.lt_trans h1 h2)
   ·exact .inl h1
  ·rcases h2 with h2 | ⟨rfl, h2⟩
   ·exact .inl h2
   ·exact .inr ⟨rfl, bl_trans x y z h1 h2⟩
theorem bl_other {x y : List UInt8} (h : x ≠ y) : Op.bytesLess y x = !Op.bytesLess x y := by
 rw [← bytesLess_total x y]
 have : (x == y) = false := by simpa using h
 rw [this, Bool.or_false]
theorem bytes_ne {x y : ByteArray} (h : ¬ x = y) : x.data.toList ≠ y.data.toList := fun k => h (by
 cases x; cases y
 simp only [ByteArray.mk.injEq]
 exact Array.ext' k)
noncomputable def cName (a b : ByteArray) : Int := if a = b then 0 else sgn (Op.bytesLess a.data.toList b.data.toList)
theorem cName_ord : Ord3 cName where
 zero x y := by
  unfold cName
  by_cases h : x = y
  ·simp [h]
  ·rw [if_neg h]; exact ⟨fun k => absurd k (sgn_ne _), fun k => absurd k h⟩
 anti x y := by
  unfold cName
  by_cases h : x = y
  ·simp [h]
  ·rw [if_neg h, if_neg (Ne.symm h), bl_other (bytes_ne h)]
   cases Op.bytesLess x.data.toList y.data.toList <;> simp [sgn]
 trans x y z := by
  unfold cName
  intro h1 h2
  split at h1
  ·omega
  split at h2
  ·omega
  have k1 : Op.bytesLess x.data.toList y.data.toList = true := by
   cases e : Op.bytesLess x.data.toList y.data.toList with
   | true => rfl
   | false => rw [e] at h1; simp [sgn] at h1
  have k2 : Op.bytesLess y.data.toList z.data.toList = true := by
   cases e : Op.bytesLess y.data.toList z.data.toList with
   | true => rfl
   | false => rw [e] at h2; simp [sgn] at h2
  have k3 := bl_trans _ _ _ k1 k2
  have k4 : ¬ x = z := fun e => by
   rw [e, bl_irrefl] at k3; exact absurd k3 (by decide)
  rw [if_neg k4, k3]
  decide
theorem hd_lex (x y : Tm) (r : Int) : hdCmp x y r = lexI (cInt x.kind y.kind) (lexI (cInt x.num y.num) (lexI (cName x.name y.name) r)) := by
 unfold hdCmp lexI cInt cName
 by_cases h1 : x.kind = y.kind <;> by_cases h2 : x.num = y.num <;> by_cases h3 : x.name = y.name <;> simp [h1, h2, h3, sgn_ne]
theorem T.cmp_anti : ∀ x y : T, x.cmp y < 0 ↔ 0 < y.cmp x := by
 intro x
 induction x with
 | pair a b iha ihb =>
  intro y
  rw [T.cmp_eq, T.cmp_eq y, hd_lex, hd_lex]
  refine cInt_ord.lex_anti fun _ => cInt_ord.lex_anti fun _ => cName_ord.lex_anti fun _ => ?_
  cases y with
  | pair c d =>
   show lexI (a.cmp c) (b.cmp d) < 0 ↔ 0 < lexI (c.cmp a) (d.cmp b)
   refine lexI_anti (iha c) ?_ fun _ => ihb d
   have h1 := iha c; have h2 := T.cmp_zero a c; have h3 := T.cmp_zero c a
   by_cases e : a = c
   ·have := h2.2 e; have := h3.2 e.symm; omega
   ·have : a.cmp c ≠ 0 := fun k => e (h2.1 k)
    have : c.cmp a ≠ 0 := fun k => e (h3.1 k).symm
    omega
  | _ => exact Iff.rfl
 | _ =>
  intro y
  rw [T.cmp_eq, T.cmp_eq y, hd_lex, hd_lex]
  refine cInt_ord.lex_anti fun _ => cInt_ord.lex_anti fun _ => cName_ord.lex_anti fun _ => ?_
  cases y <;> exact Iff.rfl
theorem T.cmp_trans : ∀ x y z : T, x.cmp y < 0 → y.cmp z < 0 → x.cmp z < 0 := by
 intro x
 induction x with
 | pair a b iha ihb =>
  intro y z
  rw [T.cmp_eq, T.cmp_eq y, T.cmp_eq _ z, hd_lex, hd_lex, hd_lex]
  refine cInt_ord.lex_trans fun _ _ => cInt_ord.lex_trans fun _ _ => cName_ord.lex_trans fun _ _ => ?_
  cases y with
  | pair c d =>
   cases z with
   | pair e f =>
    show lexI (a.cmp c) (b.cmp d) < 0 → lexI (c.cmp e) (d.cmp f) < 0 → lexI (a.cmp e) (b.cmp f) < 0
    exact lexI_trans (iha c e) (fun k => by rw [(T.cmp_zero _ _).1 k]) (fun k => by rw [(T.cmp_zero _ _).1 k]) fun _ _ => ihb d f
   | _ => exact fun _ h => absurd h (Int.lt_irrefl 0)
  | _ => exact fun h => absurd h (Int.lt_irrefl 0)
 | _ =>
  intro y z
  rw [T.cmp_eq, T.cmp_eq y, T.cmp_eq _ z, hd_lex, hd_lex, hd_lex]
  refine cInt_ord.lex_trans fun _ _ => cInt_ord.lex_trans fun _ _ => cName_ord.lex_trans fun _ _ => ?_
  exact fun h => absurd h (Int.lt_irrefl 0)
theorem T.cmp_ord : Ord3 T.cmp := ⟨T.cmp_zero, T.cmp_anti, T.cmp_trans⟩
def cmpList {α : Type} (c : α → α → Int) : List α → List α → Int
 | [], [] => 0
 | [], _ :: _ => -1
 | _ :: _, [] => 1
 | a :: l, b :: m => lexI (c a b) (cmpList c l m)
theorem cmpList_ord {α : Type} {c : α → α → Int} (h : Ord3 c) : Ord3 (cmpList c) where
 zero := by
  intro x
  induction x with
  | nil => intro y; cases y <;> simp [cmpList]
  | cons a l ih =>
   intro y
   cases y with
   | nil => simp [cmpList]
   | cons b m => rw [cmpList, lexI_zero, h.zero, ih, List.cons.injEq]
 anti := by
  intro x
  induction x with
  | nil => intro y; cases y <;> simp [cmpList]
  | cons a l ih =>
   intro y
   cases y with
   | nil => simp [cmpList]
   | cons b m => rw [cmpList, cmpList]; exact h.lex_anti fun _ => ih m
 trans := by
  intro x
  induction x with
  | nil => intro y z; cases y <;> cases z <;> simp [cmpList]
  | cons a l ih =>
   intro y z
   cases y with
   | nil => simp [cmpList]
   | cons b m =>
    cases z with
    | nil => simp [cmpList]
    | cons e n => rw [cmpList, cmpList, cmpList]; exact h.lex_trans fun _ _ => ih m n
theorem B.cmp_ord : Ord3 B.cmp where
 zero x y := by
  rw [B.cmp, lexI_zero, cInt_ord.zero, T.cmp_zero]
  cases x; cases y; simp
 anti x y := cInt_ord.lex_anti fun _ => T.cmp_anti _ _
 trans x y z := cInt_ord.lex_trans fun _ _ => T.cmp_trans _ _ _
end Go.Vx
namespace Go.Vx
open Go.Proofs Classical
section
variable {α : Type} {c : α → α → Int}
theorem Ord3.ge_pos (h : Ord3 c) {x y : α} (h1 : ¬ c x y < 0) (h2 : c x y ≠ 0) : c y x < 0 := (h.anti y x).2 (by omega)
theorem Asc3.ins (h : Ord3 c) {l : List α} {e : α} {k : Nat} (hl : Asc3 c l) (h1 : ∀ x ∈ l.take k, c x e < 0) (h2 : ∀ x ∈ l.drop k, c e x < 0) : Asc3 c (insAt l e k) := by
 rw [insAt, Asc3, List.pairwise_append]
 refine ⟨hl.sublist (List.take_sublist _ _), ?_, fun a ha b hb => ?_⟩
 ·exact List.pairwise_cons.2 ⟨h2, hl.sublist (List.drop_sublist _ _)⟩
 ·rcases List.mem_cons.1 hb with rfl | hb
  ·exact h1 a ha
  ·exact h.trans _ _ _ (h1 a ha) (h2 b hb)
theorem exists_ins (h : Ord3 c) (e : α) : ∀ l : List α, Asc3 c l → e ∈ l ∨ ∃ k, (∀ x ∈ l.take k, c x e < 0) ∧ ∀ x ∈ l.drop k, c e x < 0
 | [], _ => .inr ⟨0, by simp, by simp⟩
 | a :: l, hl => by
  have w_ := List.pairwise_cons.1 hl
  obtain ⟨ha, hl⟩ := w_
  by_cases h0 : c e a = 0
  ·exact .inl (by rw [(h.zero _ _).1 h0]; simp)
  ·by_cases h1 : c e a < 0
   ·exact .inr ⟨0, by simp, fun x hx => by
     rcases List.mem_cons.1 hx with rfl | hx
     ·exact h1
     ·exact h.trans _ _ _ h1 (ha x hx)⟩
   ·have h3 := h.ge_pos h1 h0
    rcases exists_ins h e l hl with k | ⟨k, k1, k2⟩
    ·exact .inl (List.mem_cons_of_mem _ k)
    ·exact .inr ⟨k + 1, fun x hx => by
      rw [List.take_succ_cons] at hx
      rcases List.mem_cons.1 hx with rfl | hx
      ·exact h3
      ·exact k1 x hx, fun x hx => k2 x (by simpa using hx)⟩
theorem exists_asc (h : Ord3 c) : ∀ l : List α, ∃ m, Asc3 c m ∧ m.length ≤ l.length ∧ ∀ x, x ∈ m ↔ x ∈ l
 | [] => ⟨[], List.Pairwise.nil, Nat.le_refl _, fun _ => Iff.rfl⟩
 | a :: l => by
  have w_ := exists_asc h l
  obtain ⟨m, h1, h9, h2⟩ := w_
  rcases exists_ins h a m h1 with k | ⟨k, k1, k2⟩
  ·exact ⟨m, h1, by rw [List.length_cons]; omega, fun x => by
    rw [h2 x, List.mem_cons]
    exact ⟨.inr, fun g => g.elim (fun e => by subst e; exact (h2 _).1 k) id⟩⟩
  ·exact ⟨insAt m a k, h1.ins h k1 k2, by rw [insAt_length, List.length_cons]; omega, fun x => by rw [insAt_mem, h2 x, List.mem_cons]⟩
noncomputable def ascOf (h : Ord3 c) (l : List α) : List α := (exists_asc h l).choose
theorem ascOf_asc (h : Ord3 c) (l : List α) : Asc3 c (ascOf h l) := (exists_asc h l).choose_spec.1
theorem ascOf_len (h : Ord3 c) (l : List α) : (ascOf h l).length ≤ l.length := (exists_asc h l).choose_spec.2.1
theorem ascOf_mem (h : Ord3 c) (l : List α) (x : α) : x ∈ ascOf h l ↔ x ∈ l := (exists_asc h l).choose_spec.2.2 x
end
end Go.Vx
namespace Go.Vx
open Go.Proofs Classical
open Go.Sort
section
variable {α : Type} [Inhabited α] {lt : α → α → Bool} {d d' : Array α} {a q b s m e : Nat}
theorem SortedIn.same (h : SortedIn lt a b d) (e : ∀ k, a ≤ k → k < b → d'[k]! = d[k]!) : SortedIn lt a b d' := fun i j hi hij hj => by
 rw [e j (by omega) hj, e i hi (by omega)]; exact h i j hi hij hj
theorem SortedIn.one (a : Nat) (d : Array α) : SortedIn lt a (a + 1) d := fun i j hi hij hj => by omega
theorem Rot.left (_h : s ≤ m) (hm : m = e) (d : Array α) : Rot s m e d d := ⟨rfl, fun _ _ => rfl, fun t ht => by omega, fun t ht => by congr 1; omega⟩
theorem Rot.right (h : s = m) (_hm : m ≤ e) (d : Array α) : Rot s m e d d := ⟨rfl, fun _ _ => rfl, fun t ht => by congr 1; omega, fun t ht => by omega⟩
end
section
variable {α : Type} [Inhabited α] {lf sf : FuncId} {lb sb : List Value} {n : Nat} {lt : α → α → Bool} {μ0 : Mem} {J : Array α → Mem} {V : Array α → Prop}
end
end Go.Vx
namespace Go.Vx
open Go.Proofs Classical
open Go.Sort
def Bl {α : Type} [Inhabited α] (lt : α → α → Bool) (n s : Nat) (d : Array α) : Prop := ∀ t, SortedIn lt (t * s) (min n (t * s + s)) d
section
variable {α : Type} [Inhabited α] {lt : α → α → Bool} {n s q : Nat} {d d' : Array α}
theorem SortedIn.none {a b : Nat} (h : b ≤ a) : SortedIn lt a b d := fun i j hi hij hj => by omega
theorem Bl.grow (h : ∀ t, t < q → SortedIn lt (t * s) (t * s + s) d) (p : PermIn (q * s) (q * s + s) d d') (h2 : SortedIn lt (q * s) (q * s + s) d') : ∀ t, t < q + 1 → SortedIn lt (t * s) (t * s + s) d' := fun t ht => by
 rcases Nat.eq_or_lt_of_le (Nat.le_of_lt_succ ht) with e | e
 ·rw [e]; exact h2
 ·have h3 : t * s + s ≤ q * s := by rw [← Nat.succ_mul]; exact Nat.mul_le_mul_right s e
  exact SortedIn.same (h t e) fun k h5 h6 => p.2.1 k (by omega)
theorem Bl.last (h : ∀ t, t < q → SortedIn lt (t * s) (t * s + s) d) (h1 : q * s ≤ n) (hn : n < q * s + s) (p : PermIn (q * s) n d d') (h2 : SortedIn lt (q * s) n d') : Bl lt n s d' := fun t => by
 rcases Nat.lt_trichotomy t q with e | e | e
 ·have h3 : t * s + s ≤ q * s := by rw [← Nat.succ_mul]; exact Nat.mul_le_mul_right s e
  rw [Nat.min_eq_right (by omega)]
  exact SortedIn.same (h t e) fun k h5 h6 => p.2.1 k (by omega)
 ·rw [e, Nat.min_eq_left (by omega)]; exact h2
 ·have h3 : q * s + s ≤ t * s := by rw [← Nat.succ_mul]; exact Nat.mul_le_mul_right s e
  exact SortedIn.none (by omega)
theorem Bl.keep {a b m : Nat} (h : ∀ t, m ≤ t → SortedIn lt (t * s) (min n (t * s + s)) d) {m' : Nat} (hm : m ≤ m') (p : PermIn a b d d') (hb : b ≤ m' * s) : ∀ t, m' ≤ t → SortedIn lt (t * s) (min n (t * s + s)) d' := fun t ht =>
 SortedIn.same (h t (by omega)) fun k h5 h6 => p.2.1 k (.inr (by have := Nat.mul_le_mul_right s ht; omega))
end
section
variable {α : Type} [Inhabited α] {lf sf : FuncId} {lb sb : List Value} {n : Nat} {lt : α → α → Bool} {μ0 : Mem} {J : Array α → Mem} {V : Array α → Prop} {μ : Mem} {d0 : Array α}
end
section
variable {α : Type} [Inhabited α] {enc : α → Value} {μ h0 : Mem} {r : Nat} {ty t e : TypeId} {i ie : TypeInfo} {ke : Nat} {ti : TI} {rest : List Value} {d0 : Array α} {n cap : Nat} {lf : FuncId} {lb : List Value} {lt : α → α → Bool}
end
end Go.Vx
namespace Go.Vx
open Go.Proofs Classical
theorem cmpList_end {α : Type} {c : α → α → Int} {l m : List α} {i : Nat} (h : ¬ (i < l.length ∧ i < m.length)) (h2 : i ≤ l.length) (h3 : i ≤ m.length) (e : cmpList c (l.drop i) (m.drop i) = cmpList c l m) : cmpList c l m = cInt l.length m.length := by
 rw [← e]
 rcases Nat.lt_or_ge i l.length with k | k
 ·obtain rfl : i = m.length := by omega
  rw [List.drop_length]
  have w_ := aSo k
  obtain ⟨x, hx⟩ := w_
  rw [drop_at hx, cmpList, cInt, if_neg (by omega), decide_eq_false (by omega)]
  rfl
 ·obtain rfl : i = l.length := by omega
  rw [List.drop_length]
  rcases Nat.eq_or_lt_of_le h3 with k2 | k2
  ·rw [k2, List.drop_length, cmpList, cInt, if_pos rfl]
  ·have w_ := aSo k2
   obtain ⟨x, hx⟩ := w_
   rw [drop_at hx, cmpList, cInt, if_neg (by omega), decide_eq_true (by omega)]
   rfl
theorem lexI_ne {p q : Int} (h : p ≠ 0) : lexI p q = p := by rw [lexI, if_neg h]
theorem lexI_eq {p q : Int} (h : p = 0) : lexI p q = q := by rw [lexI, if_pos h]
section
variable {μ : Mem}
theorem orderInts_any (a b : Int) : Gives Tryz.prog 213 [.int .i64 a, .int .i64 b] μ (.int .i64 (cInt a b)) := by
 by_cases h : a = b
 ·rw [cInt, if_pos h]
  refine Spec.mk Tryz.func213 (by kernel_rfl) ?_
  refine ifd (fun h1 => by omega) (fun h1 => ?_)
  exact ifd (fun h2 => by omega) (fun h2 => rGv rfl rfl)
 ·rw [cInt, if_neg h]; exact orderInts_spec a b h
end
end Go.Vx
namespace Go.Vx
open Go.Proofs Classical
theorem Low.arg {x y : T} (h : Low x) (hy : y ∈ x.args) : Low y := fun n hn => by
 cases x with
 | pair a b =>
  simp only [T.args, List.mem_cons, List.not_mem_nil, or_false] at hy
  refine h n ?_
  rw [T.vars, List.mem_append]
  rcases hy with rfl | rfl
  ·exact .inl hn
  ·exact .inr hn
 | _ => simp [T.args] at hy
section
variable {μ : Mem}
end
end Go.Vx
namespace Go.Vx
open Go.Proofs Classical
section
variable {μ : Mem}
theorem rel_wd {p : Pg} (hw : p.d.wd) {i : Nat} {x : Rl} (hx : p.rels[i]? = some x) : x.body.d.wd := by
 have hw2 : D.wds (p.rels.map Rl.d) := by rw [Pg.d_eq] at hw; exact hw.1
 have h := D.wds_mem hw2 _ (mAt (at_map (f := Rl.d) hx))
 rw [Rl.d_eq] at h; exact h.2.2.2.1
set_option maxHeartbeats 8000000 in
end
end Go.Vx
namespace Go.Vx
open Go.Proofs Classical
section
variable {μ : Mem}
theorem pairR_spec {a b : T} {va vb : Value} (ha : RepV μ a.tm.d va) (hb : RepV μ b.tm.d vb) : Spec Tryz.prog 184 [va, vb] μ fun v μ' => RepV μ' (T.pair a b).tm.d v := by
 have w_ := Tm.invV ha
 obtain ⟨p, rfl⟩ := w_
 have w_ := Tm.invV hb
 obtain ⟨q, rfl⟩ := w_
 refine Spec.mk Tryz.func184 (by kernel_rfl) ?_
 intro r1 r2 r3 r4
 refine rFz [3] fun μ' hle hno hrow => .inl ?_
 rw [T.tm, Tm.d_mk]
 exact ⟨_, rfl, RepS.int (RepS.int (RepS.str (RepS.last (Rows.sl hrow (.cons (ha.mono hle) (Tm.d_n _) (.cons (hb.mono hle) (Tm.d_n _) .nil)) (show 2 ≤ maxLen by decide)))))⟩
theorem mapVars_rel {k : FuncId} {caps : List Value} {f : Int → Option T} (J : Mem → Mem → Prop) (hJ : ∀ {μ' μ'' h' : Mem}, μ'.Le μ'' → J μ' h' → J μ'' h') : ∀ (x : T) {μ h : Mem} {v : Value},
  (∀ μ' h', μ.Le μ' → J μ' h' → ∀ n ∈ x.vars, SpecH Tryz.prog k (.int .i64 n :: caps) μ' h' fun v μ'' h'' => optV (fun y tv => RepV μ'' y.tm.d tv) (f n) v ∧ J μ'' h'') → J μ h → RepV μ x.tm.d v →
  SpecH Tryz.prog 135 [v, .func (.func k) #[] caps.toArray] μ h fun v μ' h' => RepV μ' (x.subst f).tm.d v ∧ J μ' h' := by
 intro x
 induction x with
 | var n =>
  intro μ h v hk hj hv
  have w_ := Tm.invV hv
  obtain ⟨p, rfl⟩ := w_
  refine SpecH.mk [] Tryz.func135 (by kernel_rfl) ?_
  intro r1 r2
  refine ifd (fun _ => ?_) (fun h => absurd rfl h)
  refine cOw (hk μ h (Mem.Le.refl μ) hj n (by simp [T.vars])) fun v' μ' h' hle hap hR => ?_
  obtain ⟨hR, hj'⟩ := hR
  simp only [T.subst]
  cases hs : f n with
  | some y =>
   rw [hs] at hR
   obtain ⟨tv, rfl, htv⟩ := hR
   have w_ := Tm.invV htv
   obtain ⟨q, rfl⟩ := w_
   intro r3
   refine iIn (fun _ => ?_) (fun h => nomatch h)
   refine cPl (copyTerm_spec y htv) fun v2 μ2 hle2 hR2 => ?_
   have w_ := Tm.invV hR2.rep
   obtain ⟨q2, rfl⟩ := w_
   exact rPl ⟨hR2.rep, hJ hle2 hj'⟩
  | none =>
   rw [hs] at hR
   obtain rfl := hR
   intro r3
   refine iIn (fun h => nomatch h) (fun _ => ?_)
   exact rPl ⟨hv.mono hle, hj'⟩
 | pair a b iha ihb =>
  intro μ h v hk hj hv
  have w_ := Tm.inv hv
  obtain ⟨base', cap', rfl, hsa⟩ := w_
  have w_ := T.parts hsa
  obtain ⟨ad, ad', p, p', h1, h2, hra, hrb⟩ := w_
  refine SpecH.mk [] Tryz.func135 (by kernel_rfl) ?_
  intro r1 r2
  refine ifd (fun h => absurd h (by simp)) (fun _ => ?_)
  refine ifd (fun _ => ?_) (fun h => absurd rfl h)
  refine eIn h1 ?_
  refine eIn h2 ?_
  refine cOw (iha (fun μ' h' g1 g2 n hn => hk μ' h' g1 g2 n (by simp [T.vars, hn])) hj hra) fun v1 μ1 h1' hle1 hap1 hR1 => ?_
  obtain ⟨hR1, hj1⟩ := hR1
  refine cOw (ihb (fun μ' h' g1 g2 n hn => hk μ' h' (hle1.trans g1) g2 n (by simp [T.vars, hn])) hj1 (hrb.mono hle1)) fun v2 μ2 h2' hle2 hap2 hR2 => ?_
  obtain ⟨hR2, hj2⟩ := hR2
  refine cPl (pairR_spec (hR1.mono hle2) hR2) fun v3 μ3 hle3 hR3 => ?_
  have w_ := Tm.invV hR3
  obtain ⟨q, rfl⟩ := w_
  exact rPl ⟨hR3, hJ hle3 hj2⟩
 | _ =>
  intro μ h v hk hj hv
  have w_ := Tm.invV hv
  obtain ⟨p, rfl⟩ := w_
  refine SpecH.mk [] Tryz.func135 (by kernel_rfl) ?_
  intro r1 r2
  refine ifd (fun h => absurd h (by simp [T.tm, Tm.kind])) (fun _ => ?_)
  refine ifd (fun h => absurd h (by simp [T.tm, Tm.kind])) (fun _ => ?_)
  exact rPl ⟨hv, hj⟩
end
end Go.Vx
namespace Go.Vx
open Go.Proofs Classical
noncomputable abbrev cmpL : List T → List T → Int := cmpList T.cmp
theorem cmpL_ord : Ord3 cmpL := cmpList_ord T.cmp_ord
noncomputable def cmpF (a b : F) : Int := lexI (cName a.rel b.rel) (cmpL a.args b.args)
theorem cmpF_ord : Ord3 cmpF where
 zero x y := by
  rw [cmpF, lexI_zero, cName_ord.zero, cmpL_ord.zero]
  cases x; cases y; simp
 anti x y := cName_ord.lex_anti fun _ => cmpL_ord.anti _ _
 trans x y z := cName_ord.lex_trans fun _ _ => cmpL_ord.trans _ _ _
noncomputable abbrev ascF (l : List F) : List F := ascOf cmpF_ord l
theorem len_le_of_sub {α : Type} : ∀ {a b : List α}, a.Nodup → (∀ x ∈ a, x ∈ b) → a.length ≤ b.length
 | [], _, _, _ => Nat.zero_le _
 | x :: a, b, hn, h => by
  have w_ := List.nodup_cons.1 hn
  obtain ⟨h1, h2⟩ := w_
  have w_ := List.append_of_mem (h x (by simp))
  obtain ⟨s, t, rfl⟩ := w_
  have := len_le_of_sub (a := a) (b := s ++ t) h2 fun y hy => by
   have h3 := h y (by simp [hy])
   rcases List.mem_append.1 h3 with h3 | h3
   ·simp [h3]
   ·rcases List.mem_cons.1 h3 with rfl | h3
    ·exact absurd hy h1
    ·simp [h3]
  simp only [List.length_append, List.length_cons] at *
  omega
theorem sub_of_len {α : Type} {a b : List α} (hn : a.Nodup) (h : ∀ x ∈ a, x ∈ b) (hl : b.length ≤ a.length) : ∀ x ∈ b, x ∈ a := fun x hx => Classical.byContradiction fun k => by
 have := len_le_of_sub (a := x :: a) (b := b) (List.nodup_cons.2 ⟨k, hn⟩) fun y hy => by
  rcases List.mem_cons.1 hy with rfl | hy
  ·exact hx
  ·exact h y hy
 rw [List.length_cons] at this; omega
theorem asc_same {α : Type} {c : α → α → Int} (ho : Ord3 c) {a b : List α} (ha : Asc3 c a) (hb : Asc3 c b) (h : ∀ x ∈ a, x ∈ b) (hl : b.length = a.length) : a = b :=
 ha.uniq ho hb fun x => ⟨h x, sub_of_len (ha.nodup ho) h (by omega) x⟩
def valF (vs : List T) (n : Int) : Option T := if 0 ≤ n then vs[n.toNat]? else none
noncomputable def callF (vs : List T) (g : Gl) : F := ⟨g.name, g.terms.map fun t => t.toT.subst (valF vs)⟩
def Gl.kid (g : Gl) : Gl := g.goals.getD 0 (.mk 0 ⟨#[]⟩ [] [])
def testT (k : Int) (xs : List T) : Prop :=
 if k = 0 then True else if k = 2 then xs[0]? = xs[1]? else if k = 3 then xs[0]? ≠ xs[1]? else if k = 4 then ∃ x, xs[0]? = some x ∧ x.tm.kind = 2
 else if k = 5 then ∃ x, xs[0]? = some x ∧ x.tm.kind = 3 else if k = 6 then ∃ x y, xs[0]? = some x ∧ xs[1]? = some y ∧ ¬ y.hasSym x.tm.name else False
def okG (U vs : List T) (g : Gl) : Prop :=
 if g.kind = 9 then ∀ a ∈ (callF vs g).args, a ∈ U else if g.kind = 10 then ∀ a ∈ (callF vs g.kid).args, a ∈ U else testT g.kind (g.terms.map fun t => t.toT.subst (valF vs))
noncomputable def posF (vs : List T) (c : List Gl) : List F := (c.filter fun g => decide (g.kind = 9)).map (callF vs)
noncomputable def negF (vs : List T) (c : List Gl) : List F := (c.filter fun g => decide (g.kind = 10)).map fun g => callF vs g.kid
noncomputable def ruleOf (r : Rl) (i : Nat) (c : List Gl) (vs : List T) : Ru := ⟨⟨r.name, vs.take r.arity.toNat⟩, i, vs, posF vs c, negF vs c⟩
def fires (pos neg : List F) (r : Ru) : Prop := (∀ f ∈ r.pos, f ∈ pos) ∧ ∀ f ∈ r.neg, f ∉ neg
noncomputable def nextF (rs : List Ru) (pos neg : List F) : List F := ascF ((rs.filter fun r => decide (fires pos neg r)).map Ru.head)
theorem mem_nextF {rs : List Ru} {pos neg : List F} {f : F} : f ∈ nextF rs pos neg ↔ ∃ r ∈ rs, fires pos neg r ∧ r.head = f := by
 rw [nextF, ascOf_mem, List.mem_map]
 constructor
 ·rintro ⟨r, h1, h2⟩
  rw [List.mem_filter, decide_eq_true_eq] at h1
  exact ⟨r, h1.1, h1.2, h2⟩
 ·rintro ⟨r, h1, h2, h3⟩
  exact ⟨r, by rw [List.mem_filter, decide_eq_true_eq]; exact ⟨h1, h2⟩, h3⟩
noncomputable def lfp (rs : List Ru) (base : List F) : List F := ascF ((base ++ rs.map Ru.head).filter fun f => decide (Der rs base f))
theorem mem_lfp {rs : List Ru} {base : List F} {f : F} : f ∈ lfp rs base ↔ Der rs base f := by
 rw [lfp, ascOf_mem, List.mem_filter, decide_eq_true_eq]
 refine ⟨fun h => h.2, fun h => ⟨?_, h⟩⟩
 cases h with
 | base h => exact List.mem_append_left _ h
 | rule h _ => exact List.mem_append_right _ (List.mem_map_of_mem h)
theorem lfp_asc (rs : List Ru) (base : List F) : Asc3 cmpF (lfp rs base) := ascOf_asc cmpF_ord _
theorem lfp_eq {rs : List Ru} {base S : List F} (ha : Asc3 cmpF S) (hb : ∀ f ∈ base, f ∈ S) (hd : ∀ f ∈ S, Der rs base f) (hc : ∀ r ∈ rs, (∀ f ∈ r.pos, f ∈ S) → r.head ∈ S) : S = lfp rs base :=
 ha.uniq cmpF_ord (lfp_asc _ _) fun x => by
  rw [mem_lfp]
  refine ⟨hd x, fun h => ?_⟩
  induction h with
  | base h => exact hb _ h
  | rule h _ ih => exact hc _ h ih
noncomputable def unlessR (rs : List Ru) (S : List F) : List Ru := rs.filter fun r => decide (∀ f ∈ r.neg, f ∉ S)
theorem mem_unlessR {rs : List Ru} {S : List F} {r : Ru} : r ∈ unlessR rs S ↔ r ∈ rs ∧ ∀ f ∈ r.neg, f ∉ S := by
 rw [unlessR, List.mem_filter, decide_eq_true_eq]
end Go.Vx
namespace Go.Vx
open Go.Proofs Classical
section
variable {μ : Mem}
theorem orderTermLists_spec {xs ys : List T} {base base2 : Option Addr} {cap cap2 : Nat} (hsl : Sl μ 4 base xs.length ((xs.map T.tm).map Tm.d)) (hsl2 : Sl μ 4 base2 ys.length ((ys.map T.tm).map Tm.d)) :
  Gives Tryz.prog 224 [.slice base xs.length cap, .slice base2 ys.length cap2] μ (.int .i64 (cmpL xs ys)) := by
 refine Spec.mk Tryz.func224 (by kernel_rfl) ?_
 have hm1 := maxLen_le hsl.max
 have hm2 := maxLen_le hsl2.max
 refine lIn (fun i : Nat => i ≤ xs.length ∧ i ≤ ys.length ∧ cmpL (xs.drop i) (ys.drop i) = cmpL xs ys)
  (fun i => ⟨[(0, .val (.slice base xs.length cap)), (1, .val (.slice base2 ys.length cap2)), (5, .val (.int .i64 i))], [], 0, μ, Mem.nil⟩) (fun i => xs.length - i)
  0 ⟨Nat.zero_le _, Nat.zero_le _, rfl⟩ (fun _ => ⟨rfl, rfl⟩) ⟨⟨rfl, rfl, rfl, trivial⟩, trivial, rfl, rfl⟩ ?_
 rintro i ⟨hi, hj, hJ⟩
 have fin : ¬ (i < xs.length ∧ i < ys.length) → cmpL xs ys = cInt xs.length ys.length := fun h => cmpList_end h hi hj hJ
 refine ifd (fun h1 => ?_) (fun h1 => ?_)
 ·refine ifd (fun h2 => ?_) (fun h2 => ?_)
  ·have w_ := aSo (l := xs) (i := i) (by omega)
   obtain ⟨x, hx⟩ := w_
   have w_ := aSo (l := ys) (i := i) (by omega)
   obtain ⟨y, hy⟩ := w_
   have w_ := T.elemL hsl hx
   obtain ⟨ad, p, hel, hto⟩ := w_
   have w_ := T.elemL hsl2 hy
   obtain ⟨ad2, p2, hel2, hto2⟩ := w_
   rw [drop_at hx, drop_at hy, cmpL, cmpList] at hJ
   refine eIn hel (eIn hel2 ?_)
   refine cGv (orderTerms_spec _ _ hto hto2) ?_
   refine ifnd (fun h5 => ?_) (fun h5 => ?_)
   ·rw [lexI_ne h5] at hJ
    exact rGv (congrArg (Value.int .i64) hJ) rfl
   ·rw [lexI_eq h5] at hJ
    exact num64 (by omega) (by omega) ⟨i + 1, ⟨by omega, by omega, hJ⟩, by omega, ⟨⟨rfl, rfl, rfl, trivial⟩, trivial, rfl, rfl⟩⟩
  ·refine cGv (orderInts_any _ _) ?_
   exact rGv (by rw [fin (by omega)]) rfl
 ·refine cGv (orderInts_any _ _) ?_
  exact rGv (by rw [fin (by omega)]) rfl
theorem l02CmpAll_spec {xs ys : List T} {base base2 : Option Addr} {cap cap2 : Nat} (hsl : Sl μ 4 base xs.length ((xs.map T.tm).map Tm.d)) (hsl2 : Sl μ 4 base2 ys.length ((ys.map T.tm).map Tm.d)) :
  Gives Tryz.prog 223 [.slice base xs.length cap, .slice base2 ys.length cap2] μ (.int .i64 (cmpL xs ys)) := by
 refine Spec.mk Tryz.func223 (by kernel_rfl) ?_
 have hm1 := maxLen_le hsl.max
 have hm2 := maxLen_le hsl2.max
 refine lIn (fun i : Nat => i ≤ xs.length ∧ i ≤ ys.length ∧ cmpL (xs.drop i) (ys.drop i) = cmpL xs ys)
  (fun i => ⟨[(0, .val (.slice base xs.length cap)), (1, .val (.slice base2 ys.length cap2)), (5, .val (.int .i64 i))], [], 0, μ, Mem.nil⟩) (fun i => xs.length - i)
  0 ⟨Nat.zero_le _, Nat.zero_le _, rfl⟩ (fun _ => ⟨rfl, rfl⟩) ⟨⟨rfl, rfl, rfl, trivial⟩, trivial, rfl, rfl⟩ ?_
 rintro i ⟨hi, hj, hJ⟩
 have fin : ¬ (i < xs.length ∧ i < ys.length) → cmpL xs ys = cInt xs.length ys.length := fun h => cmpList_end h hi hj hJ
 refine ifd (fun h1 => ?_) (fun h1 => ?_)
 ·refine ifd (fun h2 => ?_) (fun h2 => ?_)
  ·have w_ := aSo (l := xs) (i := i) (by omega)
   obtain ⟨x, hx⟩ := w_
   have w_ := aSo (l := ys) (i := i) (by omega)
   obtain ⟨y, hy⟩ := w_
   have w_ := T.elemL hsl hx
   obtain ⟨ad, p, hel, hto⟩ := w_
   have w_ := T.elemL hsl2 hy
   obtain ⟨ad2, p2, hel2, hto2⟩ := w_
   rw [drop_at hx, drop_at hy, cmpL, cmpList] at hJ
   refine eIn hel (eIn hel2 ?_)
   refine cGv (l02Cmp_spec _ _ hto hto2) ?_
   refine ifnd (fun h5 => ?_) (fun h5 => ?_)
   ·rw [lexI_ne h5] at hJ
    exact rGv (congrArg (Value.int .i64) hJ) rfl
   ·rw [lexI_eq h5] at hJ
    exact num64 (by omega) (by omega) ⟨i + 1, ⟨by omega, by omega, hJ⟩, by omega, ⟨⟨rfl, rfl, rfl, trivial⟩, trivial, rfl, rfl⟩⟩
  ·have hf := fin (by omega)
   refine ifnd (fun h3 => ?_) (fun h3 => ?_)
   ·refine cGv (l02Sign_spec _) ?_
    exact rGv (by rw [hf, cInt, if_neg h3]) rfl
   ·exact rGv (by rw [hf, cInt, if_pos h3]) rfl
 ·have hf := fin (by omega)
  refine ifnd (fun h3 => ?_) (fun h3 => ?_)
  ·refine cGv (l02Sign_spec _) ?_
   exact rGv (by rw [hf, cInt, if_neg h3]) rfl
  ·exact rGv (by rw [hf, cInt, if_pos h3]) rfl
theorem F.mkV {f : F} {b : Option Addr} {c : Nat} (h : RepV μ (.sl 4 ((f.args.map T.tm).map Tm.d)) (.slice b f.args.length c)) : RepV μ f.fc.d (.agg #[.string f.rel, .slice b f.args.length c]) := by
 rw [Fc.d_eq]
 exact ⟨_, rfl, RepS.str (RepS.last h)⟩
theorem orderFacts_spec {f g : F} {v w : Value} (hv : RepV μ f.fc.d v) (hw : RepV μ g.fc.d w) : Gives Tryz.prog 194 [v, w] μ (.int .i64 (cmpF f g)) := by
 have w_ := F.inv hv
 obtain ⟨p, rfl, hs⟩ := w_
 have w_ := F.inv hw
 obtain ⟨q, rfl, hs2⟩ := w_
 refine Spec.mk Tryz.func194 (by kernel_rfl) ?_
 intro r1 r2
 rw [cmpF]
 refine ifnd (fun h => ?_) (fun h => ?_)
 ·have e : lexI (cName f.rel g.rel) (cmpL f.args g.args) = sgn (Op.bytesLess f.rel.data.toList g.rel.data.toList) := by
   rw [lexI_ne (fun k => h ((cName_ord.zero _ _).1 k)), cName, if_neg h]
  rw [e]
  refine iIn (fun h4 => rGv ?_ rfl) (fun h4 => rGv ?_ rfl)
  ·rw [h4]; rfl
  ·rw [h4]; rfl
 ·rw [lexI_eq ((cName_ord.zero _ _).2 h)]
  refine cGv (orderTermLists_spec hs hs2) ?_
  exact rGv rfl rfl
theorem l18Cmp_spec {f g : F} {v w : Value} (hv : RepV μ f.fc.d v) (hw : RepV μ g.fc.d w) : Gives Tryz.prog 191 [v, w] μ (.int .i64 (cmpF f g)) := by
 have w_ := F.inv hv
 obtain ⟨p, rfl, hs⟩ := w_
 have w_ := F.inv hw
 obtain ⟨q, rfl, hs2⟩ := w_
 refine Spec.mk Tryz.func191 (by kernel_rfl) ?_
 intro r1 r2
 rw [cmpF]
 refine ifnd (fun h => ?_) (fun h => ?_)
 ·have e : lexI (cName f.rel g.rel) (cmpL f.args g.args) = sgn (Op.bytesLess f.rel.data.toList g.rel.data.toList) := by
   rw [lexI_ne (fun k => h ((cName_ord.zero _ _).1 k)), cName, if_neg h]
  rw [e]
  refine cGv (l02Sign_spec _) ?_
  exact rGv rfl rfl
 ·rw [lexI_eq ((cName_ord.zero _ _).2 h)]
  refine cGv (l02CmpAll_spec hs hs2) ?_
  exact rGv rfl rfl
end
end Go.Vx
namespace Go.Vx
open Go.Proofs Classical
section
variable {μ : Mem}
theorem spec_IsGround_any (t : Tm) {v : Value} (hv : RepV μ t.d v) (hw : t.d.wd) : Gives Tryz.prog 61 [v] μ (.bool (decide (GndT t))) := by
 by_cases h : t.Ok
 ·obtain ⟨x, hx, rfl⟩ := h.lift
  have := spec_IsGround_spec x hv hx hw
  have e : (decide (x.vars = [])) = decide (GndT x.tm) := decide_eq_decide.2 ⟨fun k => ⟨h, by rw [T.toT_tm]; exact k⟩, fun k => by have := k.2; rwa [T.toT_tm] at this⟩
  rwa [e] at this
 ·have w_ := Tm.invV hv
  obtain ⟨p, rfl⟩ := w_
  refine Spec.mk Tryz.func61 (by kernel_rfl) ?_
  intro r
  refine cGv (spec_TermOk_spec t hv hw) ?_
  refine ifd (fun k => absurd k h) (fun _ => ?_)
  exact rGv (by rw [decide_eq_false fun k => h k.1]) rfl
theorem impl_IsGround_any (t : Tm) {v : Value} (hv : RepV μ t.d v) : Gives Tryz.prog 69 [v] μ (.bool (decide (GndT t))) := by
 have hv0 := hv
 have w_ := Tm.invV hv
 obtain ⟨p, rfl⟩ := w_
 refine Spec.forget (Spec.mk Tryz.func69 (by kernel_rfl) ?_)
 intro r
 refine cGv (impl_TermOk_spec t hv0) ?_
 refine ifd (fun h => ?_) (fun h => ?_)
 ·obtain ⟨x, hx, rfl⟩ := h.lift
  refine cGv (isGround_spec x hv0) ?_
  refine rPl (isI ⟨fun k => ⟨h, by rw [T.toT_tm]; exact k⟩, fun k => by have := k.2; rwa [T.toT_tm] at this⟩)
 ·exact rPl (isF fun k => h k.1)
end
end Go.Vx
namespace Go.Vx
open Go.Proofs Classical
def valsB (vs : List T) : List B := vs.zipIdx.map fun p => ⟨(p.2 : Int), p.1⟩
theorem sub_zip : ∀ (vs : List T) (k : Nat) (n : Int), sub ((vs.zipIdx k).map fun p => ⟨(p.2 : Int), p.1⟩) n = if (k : Int) ≤ n then vs[(n - k).toNat]? else none
 | [], k, n => by simp [sub]
 | x :: vs, k, n => by
  rw [List.zipIdx_cons, List.map_cons, sub, sub_zip vs (k + 1) n]
  by_cases h : (k : Int) = n
  ·subst h; simp
  ·rw [if_neg h]
   by_cases h2 : (k : Int) ≤ n
   ·rw [if_pos (by omega), if_pos h2]
    obtain ⟨m, hm⟩ : ∃ m : Nat, (n - k).toNat = m + 1 := ⟨(n - k).toNat - 1, by omega⟩
    rw [hm, List.getElem?_cons_succ]
    congr 1; omega
   ·rw [if_neg (by omega), if_neg h2]
theorem sub_valsB (vs : List T) : sub (valsB vs) = valF vs := funext fun n => by
 rw [valsB, sub_zip vs 0 n, valF]
 simp
theorem valsB_len (vs : List T) : (valsB vs).length = vs.length := by simp [valsB]
theorem valsB_at {vs : List T} {i : Nat} {x : T} (h : vs[i]? = some x) : (valsB vs)[i]? = some ⟨(i : Int), x⟩ := by simp [valsB, h]
theorem valsB_take (vs : List T) (i : Nat) : (valsB vs).take i = valsB (vs.take i) := by
 refine List.ext_getElem? fun k => ?_
 simp only [valsB, List.getElem?_take, List.getElem?_map, List.getElem?_zipIdx]
 split <;> simp
section
variable {μ : Mem}
theorem F.fc_args (f : F) : f.fc.args = f.args.map T.tm := rfl
theorem two_T {xs : List T} (h : xs.length = 2) : ∃ x y, xs = [x, y] := by
 match xs, h with
 | [x, y], _ => exact ⟨x, y, rfl⟩
theorem one_of' {xs : List T} (h : xs.length = 1) : ∃ x, xs = [x] := by
 match xs, h with
 | [x], _ => exact ⟨x, rfl⟩
theorem testT_2 {x y : T} : testT 2 [x, y] ↔ x = y := by simp [testT]
theorem testT_3 {x y : T} : testT 3 [x, y] ↔ x ≠ y := by simp [testT]
theorem testT_4 {x : T} : testT 4 [x] ↔ x.tm.kind = 2 := by simp [testT]
theorem testT_5 {x : T} : testT 5 [x] ↔ x.tm.kind = 3 := by simp [testT]
theorem testT_6 {x y : T} : testT 6 [x, y] ↔ ¬ y.hasSym x.tm.name := by simp [testT]
theorem l13Test_spec {g : Gl} {xs : List T} {v : Value} (hv : RepV μ g.d v) (hx : g.terms = xs.map T.tm) (hl : SimpleLen g.kind xs.length) :
  Gives Tryz.prog 222 [v] μ (.bool (decide (testT g.kind xs))) := by
 have w_ := Gl.inv hv
 obtain ⟨p, rfl, hts, -⟩ := w_
 rw [hx] at hts ⊢
 rw [List.length_map] at hts ⊢
 refine Spec.mk Tryz.func222 (by kernel_rfl) ?_
 intro r1
 refine ifd (fun h => rGv (by rw [h]; simp [testT]) rfl) (fun h0 => ?_)
 refine ifd (fun h => ?_) (fun h2 => ?_)
 ·have w_ := two_T (hl.two (by omega))
  obtain ⟨x, y, rfl⟩ := w_
  have w_ := T.elemL hts (i := 0) (x := x) rfl
  obtain ⟨ad1, p1, e1, g1⟩ := w_
  have w_ := T.elemL hts (i := 1) (x := y) rfl
  obtain ⟨ad2, p2, e2, g2⟩ := w_
  refine eIn e1 (eIn e2 (cGv (l02Same_spec x y g1 g2) (rGv ?_ rfl)))
  rw [h]; exact congrArg Value.bool (decide_eq_decide.2 testT_2.symm)
 refine ifd (fun h => ?_) (fun h3 => ?_)
 ·have w_ := two_T (hl.two (by omega))
  obtain ⟨x, y, rfl⟩ := w_
  have w_ := T.elemL hts (i := 0) (x := x) rfl
  obtain ⟨ad1, p1, e1, g1⟩ := w_
  have w_ := T.elemL hts (i := 1) (x := y) rfl
  obtain ⟨ad2, p2, e2, g2⟩ := w_
  refine eIn e1 (eIn e2 (cGv (l02Same_spec x y g1 g2) (rGv ?_ rfl)))
  rw [h, ← decide_not]; exact congrArg Value.bool (decide_eq_decide.2 testT_3.symm)
 refine ifd (fun h => ?_) (fun h4 => ?_)
 ·have w_ := one_of' (hl.one (by omega))
  obtain ⟨x, rfl⟩ := w_
  have w_ := T.elemL hts (i := 0) (x := x) rfl
  obtain ⟨ad1, p1, e1, g1⟩ := w_
  refine eIn e1 (rGv ?_ rfl)
  rw [h]; exact congrArg Value.bool (decide_eq_decide.2 testT_4.symm)
 refine ifd (fun h => ?_) (fun h5 => ?_)
 ·have w_ := one_of' (hl.one (by omega))
  obtain ⟨x, rfl⟩ := w_
  have w_ := T.elemL hts (i := 0) (x := x) rfl
  obtain ⟨ad1, p1, e1, g1⟩ := w_
  refine eIn e1 (rGv ?_ rfl)
  rw [h]; exact congrArg Value.bool (decide_eq_decide.2 testT_5.symm)
 refine ifd (fun h => ?_) (fun h6 => ?_)
 ·have w_ := two_T (hl.two (by omega))
  obtain ⟨x, y, rfl⟩ := w_
  have w_ := T.elemL hts (i := 0) (x := x) rfl
  obtain ⟨ad1, p1, e1, g1⟩ := w_
  have w_ := T.elemL hts (i := 1) (x := y) rfl
  obtain ⟨ad2, p2, e2, g2⟩ := w_
  refine eIn e2 (eIn e1 (cGv (l10Contains_spec x.tm.name y g2) (rGv ?_ rfl)))
  rw [h, ← decide_not]; exact congrArg Value.bool (decide_eq_decide.2 testT_6.symm)
 refine rGv ?_ rfl
 rw [decide_eq_false]
 unfold testT
 rw [if_neg h0, if_neg h2, if_neg h3, if_neg h4, if_neg h5, if_neg h6]
 exact id
end
end Go.Vx
namespace Go.Vx
open Go.Proofs Classical
def Ru.rd (r : Ru) : RuD := ⟨r.head.rel, r.head.args.map T.tm, r.clause, r.vals.map T.tm, r.pos.map F.fc, r.neg.map F.fc⟩
def okS (vs : List T) (g : Gl) : Prop := g.kind ≠ 9 → g.kind ≠ 10 → testT g.kind (g.terms.map fun t => t.toT.subst (valF vs))
theorem callF_args (vs : List T) (g : Gl) : (callF vs g).fc.args = (g.put (valF vs)).terms := by
 rw [Gl.put_terms, F.fc_args]
 show (g.terms.map _).map _ = _
 rw [List.map_map]; rfl
theorem Gl.kid_at {g : Gl} (h : g.goals.length = 1) : g.goals[0]? = some g.kid := by
 rw [Gl.kid, List.getD_eq_getElem?_getD]
 have w_ := aSo (l := g.goals) (i := 0) (by omega)
 obtain ⟨x, hx⟩ := w_
 rw [hx]; rfl
theorem posF_succ {vs : List T} {c : List Gl} {j : Nat} {g : Gl} (h : c[j]? = some g) : posF vs (c.take (j + 1)) = posF vs (c.take j) ++ (if g.kind = 9 then [callF vs g] else []) := by
 rw [posF, List.take_add_one, h, Option.toList_some, List.filter_append, List.map_append]
 congr 1
 by_cases k : g.kind = 9 <;> simp [k]
theorem negF_succ {vs : List T} {c : List Gl} {j : Nat} {g : Gl} (h : c[j]? = some g) : negF vs (c.take (j + 1)) = negF vs (c.take j) ++ (if g.kind = 10 then [callF vs g.kid] else []) := by
 rw [negF, List.take_add_one, h, Option.toList_some, List.filter_append, List.map_append]
 congr 1
 by_cases k : g.kind = 10 <;> simp [k]
theorem ClG.simple {g : Gl} (h : ClG g) : SimpleLen g.kind g.terms.length := ⟨h.sh.top.ln2, h.sh.top.ln1⟩
section
variable {μ : Mem}
theorem Gl.termsV {g : Gl} {k n ts gs : Value} (h : RepV μ g.d (.agg #[k, n, ts, gs])) : RepV μ (.sl 4 (g.terms.map Tm.d)) ts := by
 rw [Gl.d_eq] at h
 obtain ⟨cs, e, h⟩ := h
 obtain ⟨a0, t0, rfl, h0, h⟩ := h
 obtain ⟨a1, t1, rfl, h1, h⟩ := h
 obtain ⟨a2, t2, rfl, h2, h⟩ := h
 obtain ⟨a3, t3, rfl, h3, h⟩ := h
 obtain rfl : t3 = [] := h
 have h0 : a0 = [.int .i64 g.kind] := h0
 have h1 : a1 = [.string g.name] := h1
 subst h0 h1
 have w_ := one_of (Rep.len _ _ h2)
 obtain ⟨v2, rfl⟩ := w_
 have w_ := one_of (Rep.len _ _ h3)
 obtain ⟨v3, rfl⟩ := w_
 have e2 : [k, n, ts, gs] = [.int .i64 g.kind, .string g.name, v2, v3] := congrArg (fun v => match v with | Value.agg a => a.toList | _ => []) e
 have e3 : ts = v2 := (List.cons.inj (List.cons.inj (List.cons.inj e2).2).2).1
 rw [e3]; exact h2
theorem callF_rep {vs : List T} {g : Gl} {k n gs : Value} {b : Option Addr} {m c : Nat} (h : RepV μ (g.put (valF vs)).d (.agg #[k, n, .slice b m c, gs])) : RepV μ (callF vs g).fc.d (.agg #[.string g.name, .slice b m c]) := by
 have h1 := Gl.termsV h
 rw [Fc.d_eq, callF_args]
 exact ⟨_, rfl, RepS.str (RepS.last h1)⟩
theorem headSl {vs : List T} {a k : Nat} {b : Option Nat} {ys : List Value} (h : RowAt μ b k 4 ys) (hr : Rows μ 4 ((vs.map T.tm).map Tm.d) ys) (ha : a ≤ vs.length) (hm : vs.length ≤ 1000) :
  RepV μ (.sl 4 (((vs.take a).map T.tm).map Tm.d)) (.slice (if k = 0 then (b.map fun r => (⟨r, 0, none⟩ : Addr)) else (b.map fun r => (⟨r, 0, none⟩ : Addr)).map (·.add (0 * 4))) (a - 0) (k - 0)) := by
 have e : (if k = 0 then (b.map fun r => (⟨r, 0, none⟩ : Addr)) else (b.map fun r => (⟨r, 0, none⟩ : Addr)).map (·.add (0 * 4))) = b.map fun r => (⟨r, 0, none⟩ : Addr) := by
  split
  ·rfl
  ·cases b <;> simp [Addr.add]
 rw [e, Nat.sub_zero, Nat.sub_zero]
 have hl := hr.len
 simp only [List.length_map] at hl
 have hr2 : Rows μ 4 (((vs.take a).map T.tm).map Tm.d) (ys.take a) := by
  have := hr.take a
  simpa [List.map_take] using this
 have hyl : (ys.take a).length = a := by rw [List.length_take]; omega
 have ht : RowAt μ b k 4 (ys.take a) := RowAt.cut h a
 have := Rows.sl ht hr2 (Nat.le_trans (m := 1000) (by omega) (by decide))
 rwa [hyl] at this
set_option maxHeartbeats 16000000 in
set_option maxRecDepth 20000 in
theorem l18Rule_spec {r : Rl} {v : Value} {c : List Gl} {cb bb : Option Addr} {cc bc a : Nat} {vs : List T} {i : Nat} (hr : RepV μ r.d v) (ha : r.arity = (a : Int)) (hal : a ≤ vs.length) (hvs : vs.length ≤ 12)
  (hc : Sl μ 4 cb c.length (c.map Gl.d)) (hcl : c.length ≤ 1000) (hcs : ∀ g ∈ c, ClG g) (hb : Sl μ 5 bb vs.length (((valsB vs).map B.bd).map Bd.d)) :
  Spec Tryz.prog 190 [v, .int .i64 i, .slice cb c.length cc, .slice bb vs.length bc] μ fun res μ' => ∃ (ru : Ru) (rv : Value), res = .tuple #[rv, .bool (decide (∀ g ∈ c, okS vs g))] ∧ RepV μ' ru.rd.d rv ∧ ((∀ g ∈ c, okS vs g) → ru = ruleOf r i c vs) := by
 have w_ := Rl.invV hr
 obtain ⟨q, rfl⟩ := w_
 refine Spec.mk Tryz.func190 (by kernel_rfl) ?_
 intro r4 r8 r10
 refine loop_nil (fun z : Nat × Option Nat × Nat × List Value => z.1 ≤ vs.length ∧ z.1 ≤ z.2.2.1 ∧ Rows μ 4 (((vs.take z.1).map T.tm).map Tm.d) z.2.2.2)
  (fun (k, b, n, ys) => ⟨[(2, .val (.slice cb c.length cc)), (3, .val (.slice bb vs.length bc)), (4, .loc 0 r4 0), (8, .loc 1 r8 0), (10, .loc 2 r10 0), (18, .val (.slice bb vs.length bc)), (19, .val (.int .i64 vs.length)), (20, .val (.int .i64 k))], [(0, some (.cells r4 [.val (.string r.name), .val (.int .i64 r.arity), .val (.int .i64 r.locals), .val (.int .i64 r.body.kind), .val (.string r.body.name), .val (.slice q.1.1 r.body.terms.length q.1.2), .val (.slice q.2.1 r.body.goals.length q.2.2)] 94)), (1, some (.cells r8 [.val (.string ⟨#[]⟩), .val (.slice none 0 0), .val (.int .i64 0), .val (.slice none 0 0), .val (.slice none 0 0), .val (.slice none 0 0)] 196)), (2, some (.cells r10 [.val (.string ⟨#[]⟩), .val (.slice none 0 0), .val (.int .i64 i), .row 3 b ys.length n, .val (.slice none 0 0), .val (.slice none 0 0)] 196)), (3, some (.row b n 50 4 ys))], 4, μ, Mem.nil⟩) (fun z => vs.length - z.1)
  (0, none, 0, []) ⟨Nat.zero_le _, Nat.le_refl _, .nil⟩ (fun (_, _, _, _) => ⟨rfl, rfl⟩) ?_ ?_
 ·exact ⟨⟨⟨_, rfl, .inl rfl⟩, ⟨_, rfl, .inl rfl⟩, ⟨_, rfl, .inl rfl⟩, ⟨_, rfl, .inl rfl⟩, ⟨_, rfl, .inl rfl⟩, ⟨_, rfl, .inl rfl⟩, ⟨_, rfl, .inl rfl⟩, ⟨_, rfl, .inl rfl⟩, trivial⟩, ⟨.inl rfl, .inl rfl, .inr (.inr ⟨_, _, _, _, rfl, rfl, .inl rfl, .inl rfl, .inl rfl, .inr ⟨3, rfl, rfl, Nat.le_refl _⟩, .inl rfl, .inl rfl, trivial⟩), .inr (.inl ⟨_, _, rfl, Nat.le_refl _⟩), trivial⟩, rfl, rfl⟩
 rintro ⟨k, b, n, ys⟩ ⟨hk, hkn, hrows⟩
 dsimp only at hk hkn hrows
 have hlen := hrows.len
 simp only [List.length_map, List.length_take] at hlen
 refine ifd (fun hlt => ?_) (fun hlt => ?_)
 ·have w_ := aSo (l := vs) (i := k) (by omega)
  obtain ⟨x, hx⟩ := w_
  have w_ := B.elem hb (valsB_at hx)
  obtain ⟨ad, p, hel, hto⟩ := w_
  refine eIn hel ?_
  intro r12 r28
  refine grow_introC ?_ ?_ fun b' n' hcap _ => ?_
  ·show (ys.length + 1) * 56 ≤ _; omega
  ·exact Nat.le_trans (m := 100000000) (show ys.length + 1 ≤ _ by omega) (by decide)
  have hcap : ys.length + 1 ≤ n' := hcap
  refine num64 (by omega) (by omega) ⟨(k + 1, b', n', _), ⟨by dsimp only; omega, by dsimp only; omega, ?_⟩, by dsimp only; omega, ⟨⟨rfl, rfl, rfl, rfl, rfl, rfl, rfl, rfl, trivial⟩, ⟨rfl, rfl, rfl, rfl, trivial⟩, rfl, rfl⟩⟩
  dsimp only
  rw [List.take_add_one, hx, Option.toList_some]
  simp only [List.map_append, List.map_cons, List.map_nil]
  exact hrows.append (Rows.one hto (Tm.d_n _))
 obtain rfl : k = vs.length := by omega
 rw [List.take_length] at hrows
 refine cut_intro 0 a rfl ha (Nat.zero_le _) (by omega) ?_
 refine loop_nil (fun z : Nat × (Option Nat × Nat × List Value) × (Option Nat × Nat × List Value) × Mem => z.1 ≤ c.length ∧ μ.Le z.2.2.2 ∧ Rows z.2.2.2 2 (((posF vs (c.take z.1)).map F.fc).map Fc.d) z.2.1.2.2 ∧ Rows z.2.2.2 2 (((negF vs (c.take z.1)).map F.fc).map Fc.d) z.2.2.1.2.2 ∧ ∀ g ∈ c.take z.1, okS vs g)
  (fun (j, (pb, pc, ps), (nb, nc, ns), μ') => ⟨[(3, .val (.slice bb vs.length bc)), (8, .loc 1 r8 0), (10, .loc 2 r10 0), (41, .val (.slice cb c.length cc)), (42, .val (.int .i64 c.length)), (43, .val (.int .i64 j))], [(1, some (.cells r8 [.val (.string ⟨#[]⟩), .val (.slice none 0 0), .val (.int .i64 0), .val (.slice none 0 0), .val (.slice none 0 0), .val (.slice none 0 0)] 196)), (2, some (.cells r10 [.val (.string r.name), .val (.slice (if n = 0 then (b.map fun r => (⟨r, 0, none⟩ : Addr)) else (b.map fun r => (⟨r, 0, none⟩ : Addr)).map (·.add (0 * 4))) (a - 0) (n - 0)), .val (.int .i64 i), .row 3 b ys.length n, .row 4 pb ps.length pc, .row 5 nb ns.length nc] 196)), (3, some (.row b n 50 4 ys)), (4, some (.row pb pc 133 2 ps)), (5, some (.row nb nc 133 2 ns))], 6, μ', Mem.nil⟩) (fun z => c.length - z.1)
  (0, (none, 0, []), (none, 0, []), μ) ⟨Nat.zero_le _, Mem.Le.refl _, .nil, .nil, by simp⟩ (fun (_, (_, _, _), (_, _, _), _) => ⟨rfl, rfl⟩) ?_ ?_
 ·exact ⟨⟨⟨_, rfl, .inl rfl⟩, ⟨_, rfl, .inl rfl⟩, ⟨_, rfl, .inl rfl⟩, ⟨_, rfl, .inl rfl⟩, ⟨_, rfl, .inl rfl⟩, ⟨_, rfl, .inl rfl⟩, trivial⟩, ⟨.inl rfl, .inr (.inr ⟨_, _, _, _, rfl, rfl, .inl rfl, .inl rfl, .inl rfl, .inl rfl, .inr ⟨4, rfl, rfl, Nat.le_refl _⟩, .inr ⟨5, rfl, rfl, Nat.le_succ 4⟩, trivial⟩), .inl rfl, .inr (.inl ⟨_, _, rfl, Nat.le_refl _⟩), .inr (.inl ⟨_, _, rfl, Nat.le_succ 4⟩), trivial⟩, rfl, rfl⟩
 rintro ⟨j, ⟨pb, pc, ps⟩, ⟨nb, nc, ns⟩, μ'⟩ ⟨hj, hle, hps, hns, hall⟩
 dsimp only at hj hle hps hns hall
 have hpl := hps.len
 have hnl := hns.len
 have hpf : (posF vs (c.take j)).length ≤ 1000 := by
  rw [posF, List.length_map]
  exact Nat.le_trans (List.length_filter_le _ _) (by rw [List.length_take]; omega)
 have hnf : (negF vs (c.take j)).length ≤ 1000 := by
  rw [negF, List.length_map]
  exact Nat.le_trans (List.length_filter_le _ _) (by rw [List.length_take]; omega)
 simp only [List.length_map] at hpl hnl
 have fin : ∀ μ2 μ3 μ4 : Mem, μ'.Le μ2 → RowAt μ2 b n 4 ys → μ2.Le μ3 → RowAt μ3 pb pc 2 ps → μ3.Le μ4 → RowAt μ4 nb nc 2 ns →
   RepV μ4 (Ru.rd ⟨⟨r.name, vs.take a⟩, i, vs, posF vs (c.take j), negF vs (c.take j)⟩).d (.agg #[.string r.name, .slice (if n = 0 then (b.map fun r => (⟨r, 0, none⟩ : Addr)) else (b.map fun r => (⟨r, 0, none⟩ : Addr)).map (·.add (0 * 4))) (a - 0) (n - 0), .int .i64 i, .slice (b.map fun r => (⟨r, 0, none⟩ : Addr)) ys.length n, .slice (pb.map fun r => (⟨r, 0, none⟩ : Addr)) ps.length pc, .slice (nb.map fun r => (⟨r, 0, none⟩ : Addr)) ns.length nc]) := by
  intro μ2 μ3 μ4 h1 h2 h3 h4 h5 h6
  have hmax : (1000 : Nat) ≤ maxLen := by decide
  have k1 := headSl h2 (hrows.mono (hle.trans h1)) hal (by omega)
  have k2 := Rows.sl h2 (hrows.mono (hle.trans h1)) (Nat.le_trans (m := 1000) (by omega) hmax)
  have k3 := Rows.sl h4 (hps.mono (h1.trans h3)) (Nat.le_trans (m := 1000) (by omega) hmax)
  have k4 := Rows.sl h6 (hns.mono ((h1.trans h3).trans h5)) (Nat.le_trans (m := 1000) (by omega) hmax)
  rw [RuD.d_eq]
  exact ⟨_, rfl, RepS.str (RepS.cons1 (k1.mono (h3.trans h5)) (RepS.int (RepS.cons1 (k2.mono (h3.trans h5)) (RepS.cons1 (k3.mono h5) (RepS.last k4)))))⟩
 refine ifd (fun hlt => ?_) (fun hlt => ?_)
 rotate_left
 ·obtain rfl : j = c.length := by omega
  rw [List.take_length] at hall fin
  refine rFz [3, 4, 5] fun μ2 hle2 hno2 hat2 μ3 hle3 hno3 hat3 μ4 hle4 hno4 hat4 => .inl ⟨_, _, ?_, fin μ2 μ3 μ4 hle2 hat2 hle3 hat3 hle4 hat4, fun _ => by rw [ruleOf, ha]; rfl⟩
  rw [decide_eq_true hall]
 have w_ := aSo (l := c) (i := j) (by omega)
 obtain ⟨g, hg⟩ := w_
 have w_ := Gl.elem (hc.mono hle) hg
 obtain ⟨ad, pg, hel, hrg⟩ := w_
 have hG := hcs g (mAt hg)
 refine eIn hel ?_
 intro r14
 have hput := l13Put_spec (bs := valsB vs) (b0 := bb) (c0 := bc) g hrg hG.sh (by rw [valsB_len]; exact hb.mono hle)
 rw [valsB_len, sub_valsB] at hput
 refine cPl hput fun v1 μ1 hle1 hR => ?_
 have w_ := Gl.invV hR
 obtain ⟨p1, rfl⟩ := w_
 intro r15
 have all1 : okS vs g → ∀ x ∈ c.take (j + 1), okS vs x := fun h x hx => by
  rw [List.take_add_one, hg, Option.toList_some] at hx
  rcases List.mem_append.1 hx with hx | hx
  ·exact hall x hx
  ·rw [List.mem_singleton.1 hx]; exact h
 refine ifd (fun h9 => ?_) (fun h9 => ?_)
 ·intro r61
  refine gIn ?_ ?_ fun b' c' _ => ?_
  ·show (ps.length + 1) * 40 ≤ _; omega
  ·exact Nat.le_trans (m := 100000000) (show ps.length + 1 ≤ _ by omega) (by decide)
  refine num64 (by omega) (by omega) ⟨(j + 1, (b', c', _), (nb, nc, ns), μ1), ⟨by dsimp only; omega, hle.trans hle1, ?_, ?_, all1 fun k => absurd h9 k⟩, by dsimp only; omega, ⟨⟨rfl, rfl, rfl, rfl, rfl, rfl, trivial⟩, ⟨rfl, rfl, rfl, rfl, rfl, trivial⟩, rfl, rfl⟩⟩
  ·dsimp only
   rw [posF_succ hg, if_pos h9]
   simp only [List.map_append, List.map_cons, List.map_nil]
   have := callF_rep hR
   rw [Gl.put_name]
   exact (hps.mono hle1).append (Rows.one this (Fc.d_n _))
  ·dsimp only
   rw [negF_succ hg, if_neg (by omega), List.append_nil]
   exact hns.mono hle1
 refine ifd (fun h10 => ?_) (fun h10 => ?_)
 ·have hgl := hG.sh.top.gl1 h10
  have w_ := Gl.inv hR
  obtain ⟨q1, e1, _, hgs⟩ := w_
  have hkid : (g.put (valF vs)).goals[0]? = some (g.kid.put (valF vs)) := by rw [Gl.put_goals, List.getElem?_map, Gl.kid_at hgl]; rfl
  have w_ := Gl.elem hgs hkid
  obtain ⟨ad2, pk, hel2, hrk⟩ := w_
  have hp : q1 = p1 := by
   have h2 := congrArg (fun v => match v with | Value.agg a => (a[2]?, a[3]?) | _ => (none, none)) e1
   simp at h2
   exact Prod.ext (Prod.ext h2.1.1.symm h2.1.2.symm) (Prod.ext h2.2.1.symm h2.2.2.symm)
  subst hp
  refine eIn hel2 ?_
  refine eIn hel2 ?_
  intro r81
  refine gIn ?_ ?_ fun b' c' _ => ?_
  ·show (ns.length + 1) * 40 ≤ _; omega
  ·exact Nat.le_trans (m := 100000000) (show ns.length + 1 ≤ _ by omega) (by decide)
  refine num64 (by omega) (by omega) ⟨(j + 1, (pb, pc, ps), (b', c', _), μ1), ⟨by dsimp only; omega, hle.trans hle1, ?_, ?_, all1 fun _ k => absurd h10 k⟩, by dsimp only; omega, ⟨⟨rfl, rfl, rfl, rfl, rfl, rfl, trivial⟩, ⟨rfl, rfl, rfl, rfl, rfl, trivial⟩, rfl, rfl⟩⟩
  ·dsimp only
   rw [posF_succ hg, if_neg h9, List.append_nil]
   exact hps.mono hle1
  ·dsimp only
   rw [negF_succ hg, if_pos h10]
   simp only [List.map_append, List.map_cons, List.map_nil]
   have := callF_rep (vs := vs) (g := g.kid) hrk
   rw [Gl.put_name]
   exact (hns.mono hle1).append (Rows.one this (Fc.d_n _))
 have hterms : (g.put (valF vs)).terms = (g.terms.map fun t => t.toT.subst (valF vs)).map T.tm := by rw [Gl.put_terms, List.map_map]; rfl
 refine cGv (l13Test_spec hR hterms (by rw [Gl.put_kind, List.length_map]; exact hG.simple)) ?_
 rw [Gl.put_kind]
 refine ifnd (fun hf => ?_) (fun hf => ?_)
 ·refine rFz [3, 4, 5] fun μ2 hle2 hno2 hat2 μ3 hle3 hno3 hat3 μ4 hle4 hno4 hat4 => .inl ⟨_, _, ?_, fin μ2 μ3 μ4 (hle1.trans hle2) hat2 hle3 hat3 hle4 hat4, fun k => absurd (k g (mAt hg) h9 h10) hf⟩
  rw [decide_eq_false fun k => hf (k g (mAt hg) h9 h10)]
 ·refine num64 (by omega) (by omega) ⟨(j + 1, (pb, pc, ps), (nb, nc, ns), μ1), ⟨by dsimp only; omega, hle.trans hle1, ?_, ?_, all1 fun _ _ => hf⟩, by dsimp only; omega, ⟨⟨rfl, rfl, rfl, rfl, rfl, rfl, trivial⟩, ⟨rfl, rfl, rfl, rfl, rfl, trivial⟩, rfl, rfl⟩⟩
  ·dsimp only
   rw [posF_succ hg, if_neg h9, List.append_nil]
   exact hps.mono hle1
  ·dsimp only
   rw [negF_succ hg, if_neg h10, List.append_nil]
   exact hns.mono hle1
end
end Go.Vx
namespace Go.Vx
open Go.Proofs Classical
theorem ClG.of {p : Pg} (hp : p.Ok) {i : Nat} {r : Rl} (hi : p.rels[i]? = some r) {L : List (List Gl)} (hL : r.body.cl = some L) {c : List Gl} (hc : c ∈ L) {g : Gl} (hg : g ∈ c) : ClG g := by
 have w_ := Gl.cl_all r.body hL c hc g hg
 obtain ⟨h1, h2⟩ := w_
 exact ⟨(hp.2 i r hi).body.all _ g h1, h2.2.2.1, h2.2.2.2⟩
theorem Gl.Sh.lens4 {g : Gl} (h : g.Sh) : g.terms.length ≤ 4 := by
 have T := h.top
 have e9 := T.ln9; have e2 := T.ln2; have e1 := T.ln1; have e0 := T.ln0; have k0 := T.k0; have k1 := T.k1
 omega
theorem ClG.kid {g : Gl} (h : ClG g) (h10 : g.kind = 10) : ClG g.kid := by
 have hk := Gl.kid_at (h.sh.top.gl1 h10)
 have := h.sh.top.cl h10 _ hk
 exact ⟨h.sh.sub _ (mAt hk), by omega, by omega⟩
section
variable {μ : Mem}
theorem Ru.inv {r : Ru} {v : Value} (h : RepV μ r.rd.d v) : ∃ p : RuD.P, v = .agg #[.string r.head.rel, .slice p.1.1 r.head.args.length p.1.2, .int .i64 r.clause, .slice p.2.1.1 r.vals.length p.2.1.2, .slice p.2.2.1.1 r.pos.length p.2.2.1.2, .slice p.2.2.2.1 r.neg.length p.2.2.2.2] ∧
  Sl μ 4 p.1.1 r.head.args.length ((r.head.args.map T.tm).map Tm.d) ∧ Sl μ 4 p.2.1.1 r.vals.length ((r.vals.map T.tm).map Tm.d) ∧ Sl μ 2 p.2.2.1.1 r.pos.length ((r.pos.map F.fc).map Fc.d) ∧ Sl μ 2 p.2.2.2.1 r.neg.length ((r.neg.map F.fc).map Fc.d) := by
 have w_ := RuD.inv h
 obtain ⟨p, rfl, h1, h2, h3, h4⟩ := w_
 have e1 : r.rd.hargs.length = r.head.args.length := List.length_map ..
 have e2 : r.rd.vals.length = r.vals.length := List.length_map ..
 have e3 : r.rd.pos.length = r.pos.length := List.length_map ..
 have e4 : r.rd.neg.length = r.neg.length := List.length_map ..
 rw [e1] at h1; rw [e2] at h2; rw [e3] at h3; rw [e4] at h4
 rw [e1, e2, e3, e4]
 exact ⟨p, rfl, h1, h2, h3, h4⟩
theorem Ru.mkV {r : Ru} {b1 b2 b3 b4 : Option Addr} {c1 c2 c3 c4 : Nat} (h1 : RepV μ (.sl 4 ((r.head.args.map T.tm).map Tm.d)) (.slice b1 r.head.args.length c1)) (h2 : RepV μ (.sl 4 ((r.vals.map T.tm).map Tm.d)) (.slice b2 r.vals.length c2))
  (h3 : RepV μ (.sl 2 ((r.pos.map F.fc).map Fc.d)) (.slice b3 r.pos.length c3)) (h4 : RepV μ (.sl 2 ((r.neg.map F.fc).map Fc.d)) (.slice b4 r.neg.length c4)) :
  RepV μ r.rd.d (.agg #[.string r.head.rel, .slice b1 r.head.args.length c1, .int .i64 r.clause, .slice b2 r.vals.length c2, .slice b3 r.pos.length c3, .slice b4 r.neg.length c4]) := by
 rw [RuD.d_eq]
 exact ⟨_, rfl, RepS.str (RepS.cons1 h1 (RepS.int (RepS.cons1 h2 (RepS.cons1 h3 (RepS.last h4)))))⟩
end
end Go.Vx
namespace Go.Vx
open Go.Proofs Classical
theorem valF_at {vs : List T} {n : Int} (h0 : 0 ≤ n) (h1 : n < vs.length) : ∃ x, valF vs n = some x ∧ vs[n.toNat]? = some x := by
 have w_ := aSo (l := vs) (i := n.toNat) (by omega)
 obtain ⟨x, hx⟩ := w_
 exact ⟨x, by rw [valF, if_pos h0, hx], hx⟩
section
variable {μ : Mem}
theorem with1_spec {vs : List T} {vb : Option Addr} {vc r3 : Nat} {ty : TypeId} {n : Int} (hv : Sl μ 4 vb vs.length ((vs.map T.tm).map Tm.d)) (h3 : μ r3 = some (.cells #[.slice vb vs.length vc] ty (0, 0))) (h0 : 0 ≤ n) (h1 : n < vs.length) :
  Spec Tryz.prog 242 [.int .i64 n, .pointer (some ⟨r3, 0, none⟩)] μ fun v μ' => optV (fun y tv => RepV μ' y.tm.d tv) (valF vs n) v := by
 have w_ := valF_at h0 h1
 obtain ⟨x, hx, hx2⟩ := w_
 have w_ := T.elemL hv hx2
 obtain ⟨ad, p, hel, hr⟩ := w_
 rw [hx]
 refine Spec.mk Tryz.func242 (by kernel_rfl) ?_
 intro r
 refine ext_intro [.slice vb vs.length vc] rfl (box_at h3) ?_
 refine eIn (by rw [show n = ((n.toNat : Nat) : Int) by omega]; exact hel) ?_
 exact rPl ⟨_, rfl, hr⟩
theorem with_spec {vs : List T} {vb : Option Addr} {vc : Nat} {x : T} {v : Value} (hv : Sl μ 4 vb vs.length ((vs.map T.tm).map Tm.d)) (hx : RepV μ x.tm.d v) (hl : ∀ n ∈ x.vars, 0 ≤ n ∧ n < vs.length) :
  Spec Tryz.prog 225 [v, .slice vb vs.length vc] μ fun v μ' => RepV μ' (x.subst (valF vs)).tm.d v := by
 have hx0 := hx
 have w_ := Tm.invV hx
 obtain ⟨p, rfl⟩ := w_
 refine Spec.mk Tryz.func225 (by kernel_rfl) ?_
 intro r2 r3 r4
 refine call_frz [1] fun μ1 hle1 hno1 hat1 => ?_
 refine own_go (mapVars_rel (f := valF vs) (fun μ' h' => h' = Mem.nil ∧ μ1.Le μ') (fun g1 g2 => ⟨g2.1, g2.2.trans g1⟩) x (fun μ' h' g1 g2 n hn => ?_) ⟨rfl, Mem.Le.refl _⟩ (hx0.mono hle1)) fun v1 μ2 h2 hle2 hap2 hR => ?_
 ·obtain ⟨rfl, g2⟩ := g2
  exact SpecH.weaken (Spec.beside (apart_nil _) (with1_spec (ty := 27) ((hv.mono hle1).mono g2) (g2 _ _ hat1) (hl n hn).1 (hl n hn).2)) fun v μ'' h'' g3 g4 g5 => ⟨g5.2, g5.1, g2.trans g3⟩
 ·obtain ⟨hR, rfl, _⟩ := hR
  have w_ := Tm.invV hR
  obtain ⟨q, rfl⟩ := w_
  exact rPl hR
theorem subst_take {xs : List T} {f : Int → Option T} {i : Nat} {x : T} (h : xs[i]? = some x) : (xs.map (T.subst f)).take (i + 1) = (xs.map (T.subst f)).take i ++ [x.subst f] := by
 rw [List.take_add_one, List.getElem?_map, h]; rfl
theorem callF_args2 {vs : List T} {g : Gl} {xs : List T} (h : g.terms = xs.map T.tm) : (callF vs g).args = xs.map (T.subst (valF vs)) := by
 show g.terms.map _ = _
 rw [h, List.map_map]
 exact List.map_congr_left fun x _ => by simp [T.toT_tm]
theorem callFact_spec {vs xs : List T} {vb : Option Addr} {vc : Nat} {g : Gl} {v : Value} (hv : Sl μ 4 vb vs.length ((vs.map T.tm).map Tm.d)) (hg : RepV μ g.d v) (hx : g.terms = xs.map T.tm) (hx4 : xs.length ≤ 4) (hl : ∀ x ∈ xs, ∀ n ∈ x.vars, 0 ≤ n ∧ n < vs.length) :
  Spec Tryz.prog 196 [v, .slice vb vs.length vc] μ fun v μ' => RepV μ' (callF vs g).fc.d v := by
 have w_ := Gl.inv hg
 obtain ⟨p0, rfl, hts, -⟩ := w_
 have hca := callF_args2 (vs := vs) hx
 rw [hx, List.length_map] at hts
 rw [show g.terms.length = xs.length by rw [hx, List.length_map]]
 refine Spec.mk Tryz.func196 (by kernel_rfl) ?_
 intro r2 r4 r5
 refine loop_nil (fun z : Nat × Option Nat × Nat × List Value × Mem => z.1 ≤ xs.length ∧ μ.Le z.2.2.2.2 ∧ Rows z.2.2.2.2 4 ((((xs.map (T.subst (valF vs))).take z.1).map T.tm).map Tm.d) z.2.2.2.1)
  (fun (i, b, c, ys, μ') => ⟨[(1, .val (.slice vb vs.length vc)), (4, .loc 1 r4 0), (5, .loc 2 r5 0), (12, .val (.slice p0.1.1 xs.length p0.1.2)), (13, .val (.int .i64 xs.length)), (14, .val (.int .i64 i))], [(1, some (.cells r4 [.val (.string ⟨#[]⟩), .val (.slice none 0 0)] 133)), (2, some (.cells r5 [.val (.string g.name), .row 3 b ys.length c] 133)), (3, some (.row b c 50 4 ys))], 4, μ', Mem.nil⟩) (fun z => xs.length - z.1)
  (0, none, 0, [], μ) ⟨Nat.zero_le _, Mem.Le.refl _, .nil⟩ (fun (_, _, _, _, _) => ⟨rfl, rfl⟩) ⟨⟨⟨_, rfl, .inl rfl⟩, ⟨_, rfl, .inl rfl⟩, ⟨_, rfl, .inl rfl⟩, ⟨_, rfl, .inl rfl⟩, ⟨_, rfl, .inl rfl⟩, ⟨_, rfl, .inl rfl⟩, trivial⟩, ⟨.inl rfl, .inr (.inr ⟨_, _, _, _, rfl, rfl, .inl rfl, .inr ⟨3, rfl, rfl, Nat.le_refl _⟩, trivial⟩), .inr (.inl ⟨_, _, rfl, Nat.le_refl _⟩), trivial⟩, rfl, rfl⟩ ?_
 rintro ⟨i, b, c, ys, μ'⟩ ⟨hi, hle, hrows⟩
 dsimp only at hi hle hrows
 have hlen := hrows.len
 simp only [List.length_map, List.length_take] at hlen
 refine ifd (fun hlt => ?_) (fun hlt => ?_)
 ·have w_ := aSo (l := xs) (i := i) (by omega)
  obtain ⟨x, hx⟩ := w_
  have w_ := T.elemL (hts.mono hle) hx
  obtain ⟨ad, p, hel, hr⟩ := w_
  refine eIn hel ?_
  intro r7
  refine cPl (with_spec (hv.mono hle) hr (hl x (mAt hx))) fun v1 μ1 hle1 hR => ?_
  have w_ := Tm.invV hR
  obtain ⟨q1, rfl⟩ := w_
  intro r23
  refine gIn ?_ ?_ fun b' c' _ => ?_
  ·show (ys.length + 1) * 56 ≤ _; omega
  ·exact Nat.le_trans (m := 1000) (show ys.length + 1 ≤ _ by omega) (by decide)
  refine num64 (by omega) (by omega) ⟨(i + 1, b', c', _, μ1), ⟨by dsimp only; omega, hle.trans hle1, ?_⟩, by dsimp only; omega, ⟨⟨rfl, rfl, rfl, rfl, rfl, rfl, trivial⟩, ⟨rfl, rfl, rfl, trivial⟩, rfl, rfl⟩⟩
  dsimp only
  rw [subst_take hx]
  simp only [List.map_append, List.map_cons, List.map_nil]
  exact (hrows.mono hle1).append (Rows.one hR (Tm.d_n _))
 obtain rfl : i = xs.length := by omega
 rw [List.take_of_length_le (by rw [List.length_map]; omega)] at hrows
 refine rFz [3] fun μ2 hle2 hno2 hat2 => .inl ?_
 have k := Rows.sl hat2 (hrows.mono hle2) (Nat.le_trans (m := 1000) (by omega) (by decide))
 rw [Fc.d_eq, F.fc_args, hca]
 exact ⟨_, rfl, RepS.str (RepS.last k)⟩
set_option maxHeartbeats 4000000 in
set_option maxRecDepth 20000 in
theorem trueWith_spec {vs xs : List T} {vb : Option Addr} {vc : Nat} {g : Gl} {v : Value} (hv : Sl μ 4 vb vs.length ((vs.map T.tm).map Tm.d)) (hg : RepV μ g.d v) (hx : g.terms = xs.map T.tm) (hx4 : xs.length ≤ 4) (hl : ∀ x ∈ xs, ∀ n ∈ x.vars, 0 ≤ n ∧ n < vs.length) (hsl : SimpleLen g.kind xs.length) :
  Spec Tryz.prog 197 [v, .slice vb vs.length vc] μ fun v _ => v = .bool (decide (testT g.kind (xs.map (T.subst (valF vs))))) := by
 have w_ := Gl.inv hg
 obtain ⟨p0, rfl, hts, -⟩ := w_
 rw [hx, List.length_map] at hts
 rw [show g.terms.length = xs.length by rw [hx, List.length_map]]
 refine Spec.mk Tryz.func197 (by kernel_rfl) ?_
 intro r2 r5
 refine loop_nil (fun z : Nat × Option Nat × Nat × List Value × Mem => z.1 ≤ xs.length ∧ μ.Le z.2.2.2.2 ∧ Rows z.2.2.2.2 4 ((((xs.map (T.subst (valF vs))).take z.1).map T.tm).map Tm.d) z.2.2.2.1)
  (fun (i, b, c, ys, μ') => ⟨[(1, .val (.slice vb vs.length vc)), (2, .loc 0 r2 0), (5, .loc 1 r5 0), (12, .val (.slice p0.1.1 xs.length p0.1.2)), (13, .val (.int .i64 xs.length)), (14, .val (.int .i64 i))], [(0, some (.cells r2 [.val (.int .i64 g.kind), .val (.string g.name), .val (.slice p0.1.1 xs.length p0.1.2), .val (.slice p0.2.1 g.goals.length p0.2.2)] 30)), (1, some (.cells r5 [.val (.int .i64 g.kind), .val (.string ⟨#[]⟩), .row 2 b ys.length c, .val (.slice none 0 0)] 30)), (2, some (.row b c 50 4 ys))], 3, μ', Mem.nil⟩) (fun z => xs.length - z.1)
  (0, none, 0, [], μ) ⟨Nat.zero_le _, Mem.Le.refl _, .nil⟩ (fun (_, _, _, _, _) => ⟨rfl, rfl⟩) ⟨⟨⟨_, rfl, .inl rfl⟩, ⟨_, rfl, .inl rfl⟩, ⟨_, rfl, .inl rfl⟩, ⟨_, rfl, .inl rfl⟩, ⟨_, rfl, .inl rfl⟩, ⟨_, rfl, .inl rfl⟩, trivial⟩, ⟨.inl rfl, .inr (.inr ⟨_, _, _, _, rfl, rfl, .inl rfl, .inl rfl, .inr ⟨2, rfl, rfl, Nat.le_refl _⟩, .inl rfl, trivial⟩), .inr (.inl ⟨_, _, rfl, Nat.le_refl _⟩), trivial⟩, rfl, rfl⟩ ?_
 rintro ⟨i, b, c, ys, μ'⟩ ⟨hi, hle, hrows⟩
 dsimp only at hi hle hrows
 have hlen := hrows.len
 simp only [List.length_map, List.length_take] at hlen
 refine ifd (fun hlt => ?_) (fun hlt => ?_)
 ·have w_ := aSo (l := xs) (i := i) (by omega)
  obtain ⟨x, hx⟩ := w_
  have w_ := T.elemL (hts.mono hle) hx
  obtain ⟨ad, p, hel, hr⟩ := w_
  refine eIn hel ?_
  intro r7
  refine cPl (with_spec (hv.mono hle) hr (hl x (mAt hx))) fun v1 μ1 hle1 hR => ?_
  have w_ := Tm.invV hR
  obtain ⟨q1, rfl⟩ := w_
  intro r23
  refine gIn ?_ ?_ fun b' c' _ => ?_
  ·show (ys.length + 1) * 56 ≤ _; omega
  ·exact Nat.le_trans (m := 1000) (show ys.length + 1 ≤ _ by omega) (by decide)
  refine num64 (by omega) (by omega) ⟨(i + 1, b', c', _, μ1), ⟨by dsimp only; omega, hle.trans hle1, ?_⟩, by dsimp only; omega, ⟨⟨rfl, rfl, rfl, rfl, rfl, rfl, trivial⟩, ⟨rfl, rfl, rfl, trivial⟩, rfl, rfl⟩⟩
  dsimp only
  rw [subst_take hx]
  simp only [List.map_append, List.map_cons, List.map_nil]
  exact (hrows.mono hle1).append (Rows.one hR (Tm.d_n _))
 obtain rfl : i = xs.length := by omega
 rw [List.take_of_length_le (by rw [List.length_map]; omega)] at hrows
 refine if_frz [2] fun μ2 hle2 hno2 hat2 => ?_
 have hs : Sl μ2 4 (b.map fun r => (⟨r, 0, none⟩ : Addr)) ys.length (((xs.map (T.subst (valF vs))).map T.tm).map Tm.d) := by
  have k := Rows.sl hat2 (hrows.mono hle2) (Nat.le_trans (m := 1000) (by omega) (by decide))
  have w_ := Rep.sl k
  obtain ⟨bz, cz, ez, hs⟩ := w_
  have w_ := Value.slice.inj ez
  obtain ⟨e1, e2, _⟩ := w_
  rwa [← e1, ← e2] at hs
 refine ⟨fun h => ?_, fun h0 => ?_⟩
 ·have h := of_decide_eq_true h
  exact rPl (by rw [h]; simp [testT])
 replace h0 := of_decide_eq_false h0
 refine ifd (fun h => ?_) (fun h2 => ?_)
 ·obtain ⟨x, y, hxy⟩ := two_T (xs := xs.map (T.subst (valF vs))) (by rw [List.length_map]; exact hsl.two (by omega))
  rw [hxy] at hs ⊢
  have w_ := T.elemL hs (i := 0) (x := x) rfl
  obtain ⟨ad1, p1, e1, g1⟩ := w_
  have w_ := T.elemL hs (i := 1) (x := y) rfl
  obtain ⟨ad2, p2, e2, g2⟩ := w_
  refine eIn e1 (eIn e2 (cGv (equalTerms_spec x y g1 g2) (rPl ?_)))
  rw [h]; exact congrArg Value.bool (decide_eq_decide.2 testT_2.symm)
 refine ifd (fun h => ?_) (fun h3 => ?_)
 ·obtain ⟨x, y, hxy⟩ := two_T (xs := xs.map (T.subst (valF vs))) (by rw [List.length_map]; exact hsl.two (by omega))
  rw [hxy] at hs ⊢
  have w_ := T.elemL hs (i := 0) (x := x) rfl
  obtain ⟨ad1, p1, e1, g1⟩ := w_
  have w_ := T.elemL hs (i := 1) (x := y) rfl
  obtain ⟨ad2, p2, e2, g2⟩ := w_
  refine eIn e1 (eIn e2 (cGv (equalTerms_spec x y g1 g2) (rPl ?_)))
  rw [h, ← decide_not]; exact congrArg Value.bool (decide_eq_decide.2 testT_3.symm)
 refine ifd (fun h => ?_) (fun h4 => ?_)
 ·obtain ⟨x, hxy⟩ := one_of' (xs := xs.map (T.subst (valF vs))) (by rw [List.length_map]; exact hsl.one (by omega))
  rw [hxy] at hs ⊢
  have w_ := T.elemL hs (i := 0) (x := x) rfl
  obtain ⟨ad1, p1, e1, g1⟩ := w_
  refine eIn e1 (rPl ?_)
  rw [h]; exact congrArg Value.bool (decide_eq_decide.2 testT_4.symm)
 refine ifd (fun h => ?_) (fun h5 => ?_)
 ·obtain ⟨x, hxy⟩ := one_of' (xs := xs.map (T.subst (valF vs))) (by rw [List.length_map]; exact hsl.one (by omega))
  rw [hxy] at hs ⊢
  have w_ := T.elemL hs (i := 0) (x := x) rfl
  obtain ⟨ad1, p1, e1, g1⟩ := w_
  refine eIn e1 (rPl ?_)
  rw [h]; exact congrArg Value.bool (decide_eq_decide.2 testT_5.symm)
 refine ifd (fun h => ?_) (fun h6 => ?_)
 ·obtain ⟨x, y, hxy⟩ := two_T (xs := xs.map (T.subst (valF vs))) (by rw [List.length_map]; exact hsl.two (by omega))
  rw [hxy] at hs ⊢
  have w_ := T.elemL hs (i := 0) (x := x) rfl
  obtain ⟨ad1, p1, e1, g1⟩ := w_
  have w_ := T.elemL hs (i := 1) (x := y) rfl
  obtain ⟨ad2, p2, e2, g2⟩ := w_
  refine eIn e2 (eIn e1 (cGv (hasSymbol_spec x.tm.name y g2) (rPl ?_)))
  rw [h, ← decide_not]; exact congrArg Value.bool (decide_eq_decide.2 testT_6.symm)
 refine rPl ?_
 rw [decide_eq_false]
 unfold testT
 rw [if_neg h0, if_neg h2, if_neg h3, if_neg h4, if_neg h5, if_neg h6]
 exact id
end
end Go.Vx
namespace Go.Vx
open Go.Proofs Classical
theorem Gl.all_trans : ∀ (b : Gl) {g x : Gl}, g ∈ b.all → x ∈ g.all → x ∈ b.all :=
 Gl.ind fun b ih g x hg hx => by
  rw [Gl.all_eq] at hg
  rcases List.mem_cons.1 hg with rfl | hg
  ·exact hx
  ·have w_ := List.mem_flatMap.1 hg
   obtain ⟨y, hy, hg⟩ := w_
   rw [Gl.all_eq]
   exact List.mem_cons_of_mem _ (List.mem_flatMap.2 ⟨y, hy, ih y hy hg hx⟩)
structure ClV (n : Nat) (g : Gl) (xs : List T) : Prop where
 terms : g.terms = xs.map T.tm
 len : xs.length ≤ 4
 low : ∀ x ∈ xs, ∀ m ∈ x.vars, 0 ≤ m ∧ m < (n : Int)
theorem ClV.mk1 {r : Rl} {p : Pg} {i : Nat} (h : RelOk p i r) {g : Gl} (hg : g ∈ r.body.all) {n : Nat} (hn : r.arity + r.locals = (n : Int)) : ∃ xs, ClV n g xs := by
 have hS := h.body.all _ g hg
 have w_ := lift_ok hS.top.tm
 obtain ⟨xs, hxs, hok⟩ := w_
 refine ⟨xs, hxs, by have := hS.lens4; rw [hxs, List.length_map] at this; exact this, fun x hx m hm => ?_⟩
 have hv : m ∈ r.body.vars := by
  rw [Gl.vars]
  refine List.mem_flatMap.2 ⟨g, hg, List.mem_flatMap.2 ⟨x, ?_, hm⟩⟩
  rw [hxs, toTs_tm]; exact hx
 have h1 := h.vars m hv
 have h2 := Gl.vars_range h.body m hv
 omega
theorem ClV.of {p : Pg} (hp : p.Ok) {i : Nat} {r : Rl} (hi : p.rels[i]? = some r) {L : List (List Gl)} (hL : r.body.cl = some L) {c : List Gl} (hc : c ∈ L) {g : Gl} (hg : g ∈ c) {n : Nat} (hn : r.arity + r.locals = (n : Int)) :
  (∃ xs, ClV n g xs) ∧ (g.kind = 10 → ∃ xs, ClV n g.kid xs) := by
 have w_ := Gl.cl_all r.body hL c hc g hg
 obtain ⟨h1, h2⟩ := w_
 have hrel := hp.2 i r hi
 refine ⟨ClV.mk1 hrel h1 hn, fun h10 => ClV.mk1 hrel (Gl.all_trans _ h1 ?_) hn⟩
 have hk := Gl.kid_at ((hrel.body.all _ g h1).top.gl1 h10)
 rw [Gl.all_eq]
 refine List.mem_cons_of_mem _ (List.mem_flatMap.2 ⟨_, mAt hk, ?_⟩)
 rw [Gl.all_eq]; simp
theorem okG_else {U vs xs : List T} {g : Gl} (h9 : g.kind ≠ 9) (h10 : g.kind ≠ 10) (hx : g.terms = xs.map T.tm) : okG U vs g ↔ testT g.kind (xs.map (T.subst (valF vs))) := by
 rw [okG, if_neg h9, if_neg h10, hx, List.map_map]
 have e : (List.map ((fun t => T.subst (valF vs) t.toT) ∘ T.tm) xs) = xs.map (T.subst (valF vs)) := List.map_congr_left fun x _ => by simp [T.toT_tm]
 rw [e]
section
variable {μ : Mem}
structure Fill (μ : Mem) (vs : List T) (n k : Nat) (xs : List Value) : Prop where
 len : xs.length = n
 done : ∀ (j : Nat) x, j < k → vs[j]? = some x → ∃ v, xs[j]? = some v ∧ RepV μ x.tm.d v
 rest : ∀ j, k ≤ j → j < n → xs[j]? = some (.agg #[.int .i64 0, .int .i64 0, .string ⟨#[]⟩, .slice none 0 0])
theorem Fill.start {vs : List T} {n : Nat} : Fill μ vs n 0 (List.replicate n (.agg #[.int .i64 0, .int .i64 0, .string ⟨#[]⟩, .slice none 0 0])) :=
 ⟨by simp, fun j x h => by omega, fun j _ h => by simp [h]⟩
theorem Fill.step {vs : List T} {n k : Nat} {xs : List Value} (h : Fill μ vs n k xs) {x : T} {v : Value} (hx : vs[k]? = some x) (hv : RepV μ x.tm.d v) (hk : k < n) : Fill μ vs n (k + 1) (xs.set k v) := by
 refine ⟨by rw [List.length_set]; exact h.len, fun j y hj hy => ?_, fun j hj hn => ?_⟩
 ·by_cases e : j = k
  ·subst e
   rw [hx] at hy; cases hy
   exact ⟨v, by rw [List.getElem?_set_self (by rw [h.len]; exact hk)], hv⟩
  ·have w_ := h.done j y (by omega) hy
   obtain ⟨w, h1, h2⟩ := w_
   exact ⟨w, by rw [List.getElem?_set_ne (Ne.symm e)]; exact h1, h2⟩
 ·rw [List.getElem?_set_ne (by omega)]; exact h.rest j (by omega) hn
theorem RowAt.up {μ' : Mem} {b : Option Nat} {k es : Nat} {ys : List Value} (h : RowAt μ b k es ys) (hle : μ.Le μ') : RowAt μ' b k es ys := by
 cases b with
 | none => exact h
 | some r =>
  obtain ⟨h1, h2, arr, ty, h3, h4⟩ := h
  exact ⟨h1, h2, arr, ty, hle _ _ h3, h4⟩
theorem Rows.atI {es : Nat} : ∀ {ds : List D} {xs : List Value}, Rows μ es ds xs → ∀ {i : Nat} {d : D} {v : Value}, ds[i]? = some d → xs[i]? = some v → RepV μ d v
 | _, _, .nil, i, d, v, h, _ => by simp at h
 | _, _, .cons h1 _ h, 0, d, v, e1, e2 => by cases e1; cases e2; exact h1
 | _, _, .cons _ _ h, i + 1, d, v, e1, e2 => Rows.atI h (i := i) (by simpa using e1) (by simpa using e2)
theorem Rows.of_at {es : Nat} : ∀ {ds : List D} {xs : List Value}, ds.length = xs.length → (∀ (j : Nat) d v, ds[j]? = some d → xs[j]? = some v → RepV μ d v ∧ d.n = es) → Rows μ es ds xs
 | [], [], _, _ => .nil
 | [], _ :: _, h, _ => by simp at h
 | _ :: _, [], h, _ => by simp at h
 | d :: ds, x :: xs, h, k => .cons (k 0 d x rfl rfl).1 (k 0 d x rfl rfl).2 (Rows.of_at (by simpa using h) fun j d v h1 h2 => k (j + 1) d v (by simpa using h1) (by simpa using h2))
theorem Fill.all {vs : List T} {n : Nat} {xs : List Value} (h : Fill μ vs n n xs) (hl : vs.length = n) : Rows μ 4 ((vs.map T.tm).map Tm.d) xs :=
 Rows.of_at (by simp [h.len, hl]) fun j d v h1 h2 => by
  simp only [List.getElem?_map, Option.map_eq_some_iff] at h1
  obtain ⟨t, ⟨x, hx, rfl⟩, rfl⟩ := h1
  obtain ⟨w, h3, h4⟩ := h.done j x (by have := (List.getElem?_eq_some_iff.1 hx).1; omega) hx
  rw [h2] at h3
  cases h3
  exact ⟨h4, Tm.d_n _⟩
end
end Go.Vx
namespace Go.Vx
open Go.Proofs Classical
def AscF (l : List F) (i : Nat) : Prop := ∀ j x y, j + 1 < i → l[j]? = some x → l[j + 1]? = some y → cmpF x y < 0
theorem AscF.next {l : List F} {i : Nat} (h : AscF l i) (hc : ∀ x y, 0 < i → l[i - 1]? = some x → l[i]? = some y → cmpF x y < 0) : AscF l (i + 1) := fun j x y hj hx hy => by
 rcases Nat.lt_or_ge (j + 1) i with h6 | h6
 ·exact h j x y h6 hx hy
 ·obtain rfl : i = j + 1 := by omega
  exact hc x y (by omega) hx hy
section
variable {μ : Mem}
end
end Go.Vx
namespace Go.Vx
open Go.Proofs Classical
theorem ascF_asc (L : List F) : Asc3 cmpF (ascF L) := ascOf_asc _ _
theorem mem_ascF {L : List F} {x : F} : x ∈ ascF L ↔ x ∈ L := ascOf_mem _ _ _
theorem ascF_len (L : List F) : (ascF L).length ≤ L.length := ascOf_len _ _
noncomputable def insF (L : List F) (f : F) : List F := ascF (f :: L)
theorem mem_insF {L : List F} {f x : F} : x ∈ insF L f ↔ x = f ∨ x ∈ L := by rw [insF, mem_ascF, List.mem_cons]
theorem insF_asc (L : List F) (f : F) : Asc3 cmpF (insF L f) := ascF_asc _
noncomputable def headsF (rs : List Ru) (pos neg : List F) (i : Nat) : List F := ((rs.take i).filter fun r => decide (fires pos neg r)).map Ru.head
theorem headsF_all (rs : List Ru) (pos neg : List F) : ascF (headsF rs pos neg rs.length) = nextF rs pos neg := by rw [headsF, List.take_length, nextF]
theorem headsF_len (rs : List Ru) (pos neg : List F) (i : Nat) : (headsF rs pos neg i).length ≤ i := by
 rw [headsF, List.length_map]
 exact Nat.le_trans (List.length_filter_le _ _) (List.length_take_le _ _)
theorem nextF_len (rs : List Ru) (pos neg : List F) : (nextF rs pos neg).length ≤ rs.length := by
 rw [← headsF_all]
 exact Nat.le_trans (ascF_len _) (headsF_len _ _ _ _)
theorem nextF_asc (rs : List Ru) (pos neg : List F) : Asc3 cmpF (nextF rs pos neg) := ascF_asc _
theorem nextF_mono {rs : List Ru} {pos pos' neg : List F} (h : ∀ f ∈ pos, f ∈ pos') {f : F} (hf : f ∈ nextF rs pos neg) : f ∈ nextF rs pos' neg := by
 rw [mem_nextF] at hf ⊢
 obtain ⟨r, h1, h2, h3⟩ := hf
 exact ⟨r, h1, ⟨fun x hx => h x (h2.1 x hx), h2.2⟩, h3⟩
structure RedI (rs : List Ru) (S out : List F) : Prop where
 asc : Asc3 cmpF out
 der : ∀ f ∈ out, Der (unlessR rs S) [] f
 sub : ∀ f ∈ out, f ∈ nextF rs out S
section
variable {rs : List Ru} {S out : List F}
theorem RedI.nil (rs : List Ru) (S : List F) : RedI rs S [] := ⟨List.Pairwise.nil, (fun _ h => nomatch h), (fun _ h => nomatch h)⟩
theorem RedI.next (h : RedI rs S out) : RedI rs S (nextF rs out S) := by
 refine ⟨nextF_asc _ _ _, fun f hf => ?_, fun f hf => nextF_mono h.sub hf⟩
 rw [mem_nextF] at hf
 obtain ⟨r, h1, h2, rfl⟩ := hf
 exact .rule (mem_unlessR.2 ⟨h1, h2.2⟩) fun x hx => h.der x (h2.1 x hx)
theorem RedI.done (h : RedI rs S out) (e : (nextF rs out S).length = out.length) : out = lfp (unlessR rs S) [] := by
 have e2 := asc_same cmpF_ord h.asc (nextF_asc rs out S) h.sub e
 refine lfp_eq h.asc (fun _ h => nomatch h) h.der fun r hr hp => ?_
 rw [e2, mem_nextF]
 rw [mem_unlessR] at hr
 exact ⟨r, hr.1, ⟨hp, hr.2⟩, rfl⟩
theorem RedI.len (h : RedI rs S out) : out.length ≤ rs.length := Nat.le_trans (len_le_of_sub (h.asc.nodup cmpF_ord) h.sub) (nextF_len _ _ _)
end
noncomputable def growL (rs : List Ru) (out : List F) (i : Nat) : List F := ((rs.take i).filter fun r => decide (r.head ∉ out ∧ ∀ f ∈ r.pos, f ∈ out)).map Ru.head
noncomputable def growF (rs : List Ru) (out : List F) : List F := ascF (out ++ growL rs out rs.length)
theorem mem_growF {rs : List Ru} {out : List F} {f : F} : f ∈ growF rs out ↔ f ∈ out ∨ ∃ r ∈ rs, (∀ f ∈ r.pos, f ∈ out) ∧ r.head = f := by
 rw [growF, mem_ascF, List.mem_append, growL, List.take_length, List.mem_map]
 constructor
 ·rintro (h | ⟨r, h1, h2⟩)
  ·exact .inl h
  ·rw [List.mem_filter, decide_eq_true_eq] at h1
   exact .inr ⟨r, h1.1, h1.2.2, h2⟩
 ·rintro (h | ⟨r, h1, h2, h3⟩)
  ·exact .inl h
  ·by_cases k : f ∈ out
   ·exact .inl k
   ·exact .inr ⟨r, by rw [List.mem_filter, decide_eq_true_eq]; exact ⟨h1, by rw [h3]; exact k, h2⟩, h3⟩
structure BasI (rs : List Ru) (base out : List F) : Prop where
 asc : Asc3 cmpF out
 sub : ∀ f ∈ base, f ∈ out
 der : ∀ f ∈ out, Der rs base f
section
variable {rs : List Ru} {base out : List F}
theorem BasI.start (rs : List Ru) (base : List F) : BasI rs base (ascF base) := ⟨ascF_asc _, fun _ h => mem_ascF.2 h, fun _ h => .base (mem_ascF.1 h)⟩
theorem BasI.next (h : BasI rs base out) : BasI rs base (growF rs out) := by
 refine ⟨ascF_asc _, fun f hf => mem_growF.2 (.inl (h.sub f hf)), fun f hf => ?_⟩
 rcases mem_growF.1 hf with k | ⟨r, h1, h2, rfl⟩
 ·exact h.der f k
 ·exact .rule h1 fun x hx => h.der x (h2 x hx)
theorem BasI.done (h : BasI rs base out) (e : (growF rs out).length = out.length) : out = lfp rs base := by
 have e2 := asc_same cmpF_ord h.asc (ascF_asc (out ++ growL rs out rs.length)) (fun f hf => mem_growF.2 (.inl hf)) e
 refine lfp_eq h.asc h.sub h.der fun r hr hp => ?_
 rw [e2]
 exact mem_growF.2 (.inr ⟨r, hr, hp, rfl⟩)
theorem BasI.len (h : BasI rs base out) : out.length ≤ base.length + rs.length := by
 have := len_le_of_sub (a := out) (b := base ++ rs.map Ru.head) (h.asc.nodup cmpF_ord) fun f hf => by
  cases h.der f hf with
  | base k => exact List.mem_append_left _ k
  | rule k _ => exact List.mem_append_right _ (List.mem_map_of_mem k)
 rwa [List.length_append, List.length_map] at this
end
theorem Der.congr {rs : List Ru} {b b' : List F} (h : ∀ f ∈ b, f ∈ b') {f : F} (k : Der rs b f) : Der rs b' f := by
 induction k with
 | base k => exact .base (h _ k)
 | rule k _ ih => exact .rule k ih
noncomputable def stF (rs : List Ru) : Nat → List F
 | 0 => []
 | n + 1 => nextF rs (stF rs n) []
theorem stF_red (rs : List Ru) : ∀ n, RedI rs [] (stF rs n)
 | 0 => RedI.nil _ _
 | n + 1 => (stF_red rs n).next
theorem unlessR_nil (rs : List Ru) : unlessR rs [] = rs := by
 rw [unlessR]
 exact List.filter_eq_self.2 fun r _ => by simp
def LastSt (rs : List Ru) (n : Nat) : Prop := nextF rs (stF rs n) [] = stF rs n ∧ ∀ m, m < n → nextF rs (stF rs m) [] ≠ stF rs m
theorem LastSt.uniq {rs : List Ru} {n m : Nat} (h : LastSt rs n) (k : LastSt rs m) : n = m := by
 rcases Nat.lt_trichotomy n m with e | e | e
 ·exact absurd h.1 (k.2 n e)
 ·exact e
 ·exact absurd k.1 (h.2 m e)
theorem LastSt.eq {rs : List Ru} {n : Nat} (h : LastSt rs n) : stF rs n = lfp rs [] := by
 have := (stF_red rs n).done (by rw [h.1])
 rwa [unlessR_nil] at this
inductive Over (rs : List Ru) (model B : List F) : F → Prop
 | self {f : F} (h : f ∈ B) : Over rs model B f
 | rule {r : Ru} {y : F} (h : r ∈ rs) (hp : ∀ x ∈ r.pos, x ∈ model) (hy : y ∈ r.pos) (ho : Over rs model B y) : Over rs model B r.head
noncomputable def overF (rs : List Ru) (model B : List F) : List F := ascF ((B ++ rs.map Ru.head).filter fun x => decide (Over rs model B x))
structure OvI (rs : List Ru) (model B out : List F) : Prop where
 asc : Asc3 cmpF out
 self : ∀ f ∈ B, f ∈ out
 der : ∀ x ∈ out, Over rs model B x
section
variable {rs : List Ru} {model B out : List F}
theorem OvI.mem {x : F} (h : Over rs model B x) : x ∈ B ++ rs.map Ru.head := by
 cases h with
 | self k => exact List.mem_append_left _ k
 | rule k _ _ _ => exact List.mem_append_right _ (List.mem_map_of_mem k)
theorem OvI.done (h : OvI rs model B out) (hc : ∀ r ∈ rs, (∀ x ∈ r.pos, x ∈ model) → (∃ y ∈ r.pos, y ∈ out) → r.head ∈ out) : out = overF rs model B :=
 h.asc.uniq cmpF_ord (ascF_asc _) fun x => by
  rw [overF, mem_ascF, List.mem_filter, decide_eq_true_eq]
  constructor
  ·exact fun hx => ⟨OvI.mem (h.der x hx), h.der x hx⟩
  ·rintro ⟨hm, k⟩
   clear hm
   induction k with
   | self k => exact h.self _ k
   | rule k hp hy _ ih => exact hc _ k hp ⟨_, hy, ih⟩
theorem OvI.len (h : OvI rs model B out) : out.length ≤ B.length + rs.length := by
 have := len_le_of_sub (a := out) (b := B ++ rs.map Ru.head) (h.asc.nodup cmpF_ord) fun x hx => OvI.mem (h.der x hx)
 rwa [List.length_append, List.length_map] at this
theorem OvI.ins (h : OvI rs model B out) {r : Ru} (hr : r ∈ rs) (hp : ∀ x ∈ r.pos, x ∈ model) {y : F} (hy : y ∈ r.pos) (ho : Over rs model B y) : OvI rs model B (insF out r.head) :=
 ⟨insF_asc _ _, fun f hf => mem_insF.2 (.inr (h.self f hf)), fun x hx => (mem_insF.1 hx).elim (fun e => by rw [e]; exact .rule hr hp hy ho) (h.der x)⟩
end
inductive Relv (rs : List Ru) (f : F) : F → Prop
 | self : Relv rs f f
 | rule {r : Ru} {y : F} (h : r ∈ rs) (ho : Relv rs f r.head) (hy : y ∈ r.pos) : Relv rs f y
noncomputable def relF (rs : List Ru) (f : F) : List F := ascF ((f :: rs.flatMap Ru.pos).filter fun x => decide (Relv rs f x))
structure RvI (rs : List Ru) (f : F) (out : List F) : Prop where
 asc : Asc3 cmpF out
 self : f ∈ out
 der : ∀ x ∈ out, Relv rs f x
theorem RvI.mem {rs : List Ru} {f x : F} (h : Relv rs f x) : x ∈ f :: rs.flatMap Ru.pos := by
 cases h with
 | self => simp
 | rule k _ hy => exact List.mem_cons_of_mem _ (List.mem_flatMap.2 ⟨_, k, hy⟩)
theorem RvI.done {rs : List Ru} {f : F} {out : List F} (h : RvI rs f out) (hc : ∀ r ∈ rs, r.head ∈ out → ∀ y ∈ r.pos, y ∈ out) : out = relF rs f :=
 h.asc.uniq cmpF_ord (ascF_asc _) fun x => by
  rw [relF, mem_ascF, List.mem_filter, decide_eq_true_eq]
  constructor
  ·exact fun hx => ⟨RvI.mem (h.der x hx), h.der x hx⟩
  ·rintro ⟨hm, k⟩
   clear hm
   induction k with
   | self => exact h.self
   | rule k _ hy ih => exact hc _ k ih _ hy
theorem RvI.len {rs : List Ru} {f : F} {out : List F} (h : RvI rs f out) : out.length ≤ (rs.flatMap Ru.pos).length + 1 := by
 have := len_le_of_sub (a := out) (b := f :: rs.flatMap Ru.pos) (h.asc.nodup cmpF_ord) fun x hx => RvI.mem (h.der x hx)
 rwa [List.length_cons] at this
theorem RvI.ins {rs : List Ru} {f : F} {out : List F} (h : RvI rs f out) {r : Ru} (hr : r ∈ rs) (ho : Relv rs f r.head) {y : F} (hy : y ∈ r.pos) : RvI rs f (insF out y) :=
 ⟨insF_asc _ _, mem_insF.2 (.inr h.self), fun x hx => (mem_insF.1 hx).elim (fun e => by rw [e]; exact .rule hr ho hy) (h.der x)⟩
end Go.Vx
namespace Go.Vx
open Go.Proofs Classical
abbrev FsV (μ : Mem) (L : List F) (v : Value) : Prop := RepV μ (.sl 2 ((L.map F.fc).map Fc.d)) v
abbrev RsV (μ : Mem) (rs : List Ru) (v : Value) : Prop := RepV μ (.sl 6 ((rs.map Ru.rd).map RuD.d)) v
section
variable {μ : Mem}
theorem FsV.sl {L : List F} {v : Value} (h : FsV μ L v) : ∃ b c, v = .slice b L.length c ∧ L.length ≤ c ∧ Sl μ 2 b L.length ((L.map F.fc).map Fc.d) := by
 have w_ := Rep.sl h
 obtain ⟨b, c, rfl, hs⟩ := w_
 have hl := Rep.lens h
 simp only [List.length_map] at hs hl ⊢
 exact ⟨b, c, rfl, hl, hs⟩
theorem RsV.sl {L : List Ru} {v : Value} (h : RsV μ L v) : ∃ b c, v = .slice b L.length c ∧ Sl μ 6 b L.length ((L.map Ru.rd).map RuD.d) := by
 have w_ := Rep.sl h
 obtain ⟨b, c, rfl, hs⟩ := w_
 simp only [List.length_map] at hs ⊢
 exact ⟨b, c, rfl, hs⟩
theorem FsV.nil (b : Option Addr) (c : Nat) : FsV μ [] (.slice b 0 c) := ⟨b, c, rfl, ⟨Nat.zero_le _, Nat.zero_le _⟩, (fun _ h => nomatch h), .inl rfl⟩
def Ru.cs (r : Ru) (p : RuD.P) : List Value := [.string r.head.rel, .slice p.1.1 r.head.args.length p.1.2, .int .i64 r.clause, .slice p.2.1.1 r.vals.length p.2.1.2, .slice p.2.2.1.1 r.pos.length p.2.2.1.2, .slice p.2.2.2.1 r.neg.length p.2.2.2.2]
structure Ru.At (μ : Mem) (r : Ru) (p : RuD.P) : Prop where
 head : RepV μ r.head.fc.d (.agg #[.string r.head.rel, .slice p.1.1 r.head.args.length p.1.2])
 pos : Sl μ 2 p.2.2.1.1 r.pos.length ((r.pos.map F.fc).map Fc.d)
 neg : Sl μ 2 p.2.2.2.1 r.neg.length ((r.neg.map F.fc).map Fc.d)
theorem Ru.at {r : Ru} {p : RuD.P} (h : RepV μ r.rd.d (.agg (r.cs p).toArray)) : r.At μ p := by
 have h0 := h
 rw [RuD.d_eq] at h
 obtain ⟨cs, e, h⟩ := h
 have e := (Value.agg.inj e)
 have e : cs = r.cs p := by
  have := congrArg Array.toList e
  simpa using this.symm
 subst e
 have w_ := Ru.inv h0
 obtain ⟨q, e, h1, h2, h3, h4⟩ := w_
 have e := Value.agg.inj e
 have e : r.cs p = r.cs q := by simpa [Ru.cs] using congrArg Array.toList e
 simp only [Ru.cs, List.cons.injEq, Value.slice.injEq, true_and, and_true] at e
 obtain ⟨⟨e1, e2⟩, ⟨e3, e4⟩, ⟨e5, e6⟩, e7, e8⟩ := e
 refine ⟨?_, by rw [e5]; exact h3, by rw [e7]; exact h4⟩
 obtain ⟨c1, c2, k1, k2, k3⟩ := h
 obtain ⟨d1, d2, m1, m2, m3⟩ := k3
 have l1 : c1 = [.string r.head.rel] := k2
 subst l1
 obtain ⟨b, c, l2, l3⟩ := m2
 subst l2
 subst m1
 simp only [Ru.cs, List.cons_append, List.nil_append, List.cons.injEq, true_and] at k1
 obtain ⟨k1, _⟩ := k1
 refine F.mkV ?_
 rw [k1]
 exact ⟨b, c, rfl, l3⟩
theorem Ru.elem {l : List Ru} {base : Option Addr} {n : Nat} (h : Sl μ 6 base n ((l.map Ru.rd).map RuD.d)) {i : Nat} {r : Ru} (hr : l[i]? = some r) : ∃ ad, ∃ p : RuD.P, ElemAt μ base n 6 i ad (r.cs p) ∧ RepV μ r.rd.d (.agg (r.cs p).toArray) ∧ r.At μ p := by
 have w_ := RuD.elem h (i := i) (x := r.rd) (by simp [hr])
 obtain ⟨ad, p, h1, h2⟩ := w_
 have e : r.rd.cs p = r.cs p := by
  show [_, Value.slice p.1.1 (r.head.args.map T.tm).length p.1.2, _, Value.slice p.2.1.1 (r.vals.map T.tm).length p.2.1.2, Value.slice p.2.2.1.1 (r.pos.map F.fc).length p.2.2.1.2, Value.slice p.2.2.2.1 (r.neg.map F.fc).length p.2.2.2.2] = _
  simp only [List.length_map]; rfl
 rw [e] at h1 h2
 exact ⟨ad, p, h1, h2, Ru.at h2⟩
end
end Go.Vx
namespace Go.Vx
open Go.Proofs Classical
open Go.Sort
abbrev FE := F × Value
noncomputable instance : Inhabited F := ⟨⟨⟨#[]⟩, []⟩⟩
def FElts (μ : Mem) (l : List FE) : Prop := ∀ p ∈ l, RepV μ p.1.fc.d p.2
section
variable {μ h0 : Mem} {r : Nat} {ty : TypeId} {rest : List Value}
theorem FElts.mono {μ' : Mem} {l : List FE} (h : FElts μ l) (hle : μ.Le μ') : FElts μ' l := fun p hp => RepV.mono hle (h p hp)
theorem FElts.perm {l m : List FE} (h : FElts μ l) (p : m.Perm l) : FElts μ m := fun q hq => h q (p.mem_iff.1 hq)
theorem FElts.at {d : Array FE} {n : Nat} (h : FElts μ d.toList) (hn : d.size = n) {i : Nat} (hi : i < n) : ∃ p : Fc.P, d[i]!.2 = .agg (d[i]!.1.cs p).toArray ∧ RepV μ d[i]!.1.fc.d (.agg (d[i]!.1.cs p).toArray) := by
 have hm : d[i]! ∈ d.toList := by
  rw [getElem!_pos d i (by omega)]
  exact Array.getElem_mem_toList _
 have hv := h _ hm
 have w_ := F.inv hv
 obtain ⟨p, e, _⟩ := w_
 rw [e] at hv
 exact ⟨p, e, hv⟩
end
section
variable {μ : Mem}
theorem FElts.zip : ∀ {L : List F} {vs : List Value}, Rows μ 2 ((L.map F.fc).map Fc.d) vs → FElts μ (L.zip vs)
 | [], _, _ => fun p hp => by simp at hp
 | x :: L, _, .cons h _ r => fun p hp => by
  rcases List.mem_cons.1 hp with rfl | hp
  ·exact h
  ·exact FElts.zip r p hp
theorem FElts.rows : ∀ {l : List FE}, FElts μ l → Rows μ 2 (((l.map Prod.fst).map F.fc).map Fc.d) (l.map Prod.snd)
 | [], _ => .nil
 | p :: l, h => .cons (h p (by simp)) (Fc.d_n _) (FElts.rows fun q hq => h q (List.mem_cons_of_mem _ hq))
end
end Go.Vx
namespace Go.Vx
open Go.Proofs Classical
theorem ascF_at {L : List F} (h : Asc3 cmpF L) {i j : Nat} {x y : F} (hij : i < j) (hx : L[i]? = some x) (hy : L[j]? = some y) : cmpF x y < 0 := by
 have w_ := List.getElem?_eq_some_iff.1 hx
 obtain ⟨h1, rfl⟩ := w_
 have w_ := List.getElem?_eq_some_iff.1 hy
 obtain ⟨h2, rfl⟩ := w_
 exact List.pairwise_iff_getElem.1 h i j h1 h2 hij
section
variable {μ : Mem}
end
section
variable {μ : Mem}
set_option maxHeartbeats 1000000 in
set_option maxHeartbeats 1000000 in
end
end Go.Vx
namespace Go.Vx
open Go.Proofs Classical
structure RuOk (p : Pg) (r : Ru) : Prop where
 head : FactFits p r.head.fc
 hlen : r.head.args.length ≤ 4
 plen : ∀ f ∈ r.pos, f.args.length ≤ 4
 pcnt : r.pos.length ≤ 60
 pok : ∀ f ∈ r.pos, ∀ a ∈ f.args, a.ok
theorem FactFits.len {p : Pg} (hp : p.Ok) {f : Fc} (h : FactFits p f) : f.args.length ≤ 4 := by
 obtain ⟨⟨k, r, h1, h2, h3⟩, _⟩ := h
 have := (hp.2 k r h2).ar4
 omega
theorem FactFits.wd {p : Pg} (hp : p.Ok) {f : Fc} (h : FactFits p f) : f.d.wd := by
 have hl := h.lift
 obtain ⟨⟨k, r, h1, h2, h3⟩, _⟩ := h
 have w_ := relAt_get (p := p) (s := f.rel) (by omega)
 obtain ⟨k', r', e1, e2, e3⟩ := w_
 have hn := (hp.2 k' r' e2).name
 rw [e3] at hn
 rw [Fc.d_eq]
 refine ⟨Nat.le_trans hn.2.2.1 (by decide), ?_, trivial⟩
 have e : f.args = f.f.args.map T.tm := (congrArg Fc.args hl.1).symm
 rw [e]
 exact goods_wd fun a ha => (hl.2 a ha).1.1
def FsOk (p : Pg) (L : List F) : Prop := ∀ f ∈ L, FactFits p f.fc
theorem FsOk.len {p : Pg} (hp : p.Ok) {L : List F} (h : FsOk p L) : ∀ f ∈ L, f.args.length ≤ 4 := fun f hf => by
 have := (h f hf).len hp
 rwa [F.fc_args, List.length_map] at this
theorem FsOk.lift {p : Pg} {L : List F} (h : FsOk p L) : ∀ f ∈ L.map F.fc, FactFits p f := fun f hf => by
 have w_ := List.mem_map.1 hf
 obtain ⟨x, hx, rfl⟩ := w_
 exact h x hx
theorem AscF.asc {L : List F} (h : AscF L L.length) : Asc3 cmpF L := by
 refine List.pairwise_iff_getElem.2 fun i j hi hj hij => ?_
 have go : ∀ d i j (hi : i < L.length) (hj : j < L.length), j = i + d + 1 → cmpF L[i] L[j] < 0 := fun d => by
  induction d with
  | zero =>
   intro i j hi hj e
   subst e
   exact h i _ _ hj (List.getElem?_eq_getElem hi) (List.getElem?_eq_getElem hj)
  | succ d ih =>
   intro i j hi hj e
   have h1 := ih i (j - 1) hi (by omega) (by omega)
   have h2 := h (j - 1) _ _ (by omega) (List.getElem?_eq_getElem (by omega)) (List.getElem?_eq_getElem (show j - 1 + 1 < L.length by omega))
   have e2 : L[j - 1 + 1] = L[j] := by congr 1; omega
   rw [e2] at h2
   exact cmpF_ord.trans _ _ _ h1 h2
 exact go (j - i - 1) i j hi hj (by omega)
theorem AscF.of {L : List F} (h : Asc3 cmpF L) (n : Nat) : AscF L n := fun j x y _ hx hy => ascF_at h (by omega) hx hy
section
variable {μ : Mem}
end
end Go.Vx
namespace Go.Vx
open Go.ChangeShapes Go.RowKit
section
variable {H : Type} {enc : TypeId × Value → H} {P : Program} {w : World} {base : Nat} {spare : Nat → Bool} {held : Bool}
theorem trodAll_five {t0 t1 t2 t3 t4 : TypeId} {args : Array Value} {ds : List (DataW H)} {ps : List MemPlace} (h : DataW.TrodAll enc P w base spare held [t0, t1, t2, t3, t4] args.toList ds ps) :
  ∃ v0 v1 v2 v3 v4 d0 d1 d2 d3 d4 p0 p1 p2 p3 p4, args = #[v0, v1, v2, v3, v4] ∧ ds = [d0, d1, d2, d3, d4] ∧ ps = p0 ++ p1 ++ p2 ++ p3 ++ p4 ∧ DataW.Trod enc P w base spare held t0 v0 d0 p0 ∧ DataW.Trod enc P w base spare held t1 v1 d1 p1 ∧ DataW.Trod enc P w base spare held t2 v2 d2 p2 ∧ DataW.Trod enc P w base spare held t3 v3 d3 p3 ∧ DataW.Trod enc P w base spare held t4 v4 d4 p4 := by
 obtain ⟨v0, r0, d0, e0, p0, q0, ha, rfl, rfl, h0, h⟩ := trodAll_cons h
 obtain ⟨v1, r1, d1, e1, p1, q1, rfl, rfl, rfl, h1, h⟩ := trodAll_cons h
 obtain ⟨v2, r2, d2, e2, p2, q2, rfl, rfl, rfl, h2, h⟩ := trodAll_cons h
 obtain ⟨v3, r3, d3, e3, p3, q3, rfl, rfl, rfl, h3, h⟩ := trodAll_cons h
 obtain ⟨v4, r4, d4, e4, p4, q4, rfl, rfl, rfl, h4, h⟩ := trodAll_cons h
 obtain ⟨rfl, rfl, rfl⟩ := trodAll_nil h
 exact ⟨v0, v1, v2, v3, v4, d0, d1, d2, d3, d4, p0, p1, p2, p3, p4, by cases args; simp_all, rfl, by simp, h0, h1, h2, h3, h4⟩
end
end Go.Vx
namespace Go.Vx
open Go.Proofs Classical
theorem Rows.val {μ : Mem} {es : Nat} {ds : List D} {ys : List Value} (h : Rows μ es ds ys) {i : Nat} {d : D} (hd : ds[i]? = some d) : ∃ v, ys[i]? = some v ∧ RepV μ d v := by
 have hl := (List.getElem?_eq_some_iff.1 hd).1
 have w_ := aSo (l := ys) (i := i) (by have := h.len; omega)
 obtain ⟨v, hv⟩ := w_
 exact ⟨v, hv, h.atI hd hv⟩
section
variable {μ : Mem}
end
end Go.Vx
namespace Go.Vx
open Go.Proofs Classical
section
variable {μ : Mem}
theorem RowAt.src {b : Option Nat} {cap es : Nat} {ys : List Value} (h : RowAt μ b cap es ys) : SrcAt μ (b.map fun r => ⟨r, 0, none⟩) ys.length es ys := by
 cases b with
 | none =>
  obtain rfl : ys = [] := h
  exact ⟨rfl, (fun _ h => nomatch h), .inl rfl⟩
 | some r =>
  obtain ⟨h1, h2, arr, ty, h3, h4, h5⟩ := h
  refine ⟨rfl, h2, .inr ⟨_, rfl, fun j v hj => ?_⟩⟩
  have hlt := (List.getElem?_eq_some_iff.1 hj).1
  have hf : (ys.flatMap vcells).length = ys.length * es := flat_len ys fun y hy => (h2 y hy).1
  rw [← h5, List.getElem?_take, if_pos (by omega)] at hj
  rw [Addr.add_lit', Nat.zero_add]
  simp only [Mem.cell, h3]
  simpa using hj
set_option maxHeartbeats 1000000 in
set_option maxHeartbeats 1000000 in
end
end Go.Vx
namespace Go.Vx
open Go.Proofs Classical
mutual
def Pf.cnt : Pf → Nat
 | .mk _ _ _ l => 1 + Pf.cnts l
def Pf.cnts : List Pf → Nat
 | [] => 0
 | t :: r => t.cnt + Pf.cnts r
end
theorem Pf.cnt_eq1 (g : Pf) : g.cnt = 1 + Pf.cnts g.kids := by cases g; rfl
theorem Pf.cnt_pos (g : Pf) : 1 ≤ g.cnt := by rw [Pf.cnt_eq1]; omega
theorem Pf.cnts_append : ∀ (a c : List Pf), Pf.cnts (a ++ c) = Pf.cnts a + Pf.cnts c
 | [], c => by simp [Pf.cnts]
 | d :: r, c => by simp [Pf.cnts, Pf.cnts_append r c, Nat.add_assoc]
theorem Pf.cnts_take {xs : List Pf} {j : Nat} {x : Pf} (h : xs[j]? = some x) : Pf.cnts (xs.take (j + 1)) = Pf.cnts (xs.take j) + x.cnt := by
 rw [List.take_add_one, h, Option.toList_some, Pf.cnts_append]; simp [Pf.cnts]
theorem Pf.cnts_le (xs : List Pf) (j : Nat) : Pf.cnts (xs.take j) ≤ Pf.cnts xs := by
 have := Pf.cnts_append (xs.take j) (xs.drop j)
 rw [List.take_append_drop] at this; omega
def intOn (H : Mem) (r : Nat) (k : Int) : Mem := H.set r (.cells #[.int .i64 k] 3 (0, 0))
section
variable {μ : Mem}
theorem l20Count_spec : ∀ (g : Pf) {v : Value} {most : Int}, RepV μ g.d v → -1000000000000 ≤ most → most ≤ 1000000000000 → Gives Tryz.prog 189 [v, .int .i64 most] μ (.int .i64 (upTo g.cnt most)) :=
 Pf.ind fun g ih v most hv h1 h2 => by
  have w_ := Pf.inv hv
  obtain ⟨p, rfl, -, hsl⟩ := w_
  have hn := maxLen_le hsl.max
  have hge := Pf.cnt_eq1 g
  generalize hl : g.kids = l at *
  refine Spec.mk Tryz.func189 (by kernel_rfl) ?_
  intro r
  refine lIn (fun i : Nat => i ≤ l.length) (fun i => ⟨[(1, .val (.int .i64 most)), (5, .val (.int .i64 (upTo (1 + Pf.cnts (l.take i) : Nat) most))), (9, .val (.slice p.2.1 l.length p.2.2)), (10, .val (.int .i64 l.length)), (11, .val (.int .i64 i))], [], 1, μ, Mem.nil⟩) (fun i => l.length - i)
   0 (by omega) (fun i => ⟨rfl, rfl⟩) ⟨⟨rfl, by show some (SV.val (.int .i64 _)) = some (SV.val (.int .i64 _)); congr 3; simp [Pf.cnts, upTo]; omega, rfl, rfl, rfl, trivial⟩, trivial, rfl, rfl⟩ ?_
  intro i hi
  refine ifd (fun h => ?_) (fun h => ?_)
  ·have w_ := aSo (l := l) (i := i) (by omega)
   obtain ⟨t, ht⟩ := w_
   have hc := Pf.cnts_take ht
   have hc' := Pf.cnts_le l (i + 1)
   have w_ := Pf.elem hsl ht
   obtain ⟨ad, p, hel, hr⟩ := w_
   refine eIn hel ?_
   intro r2
   refine ifd (fun h => rGv ?_ rfl) (fun h => ?_)
   ·simp only [upTo] at h ⊢
    congr 1; omega
   ·have hb : upTo (1 + Pf.cnts (l.take i) : Nat) most ≤ 1000000000001 ∧ 1 ≤ upTo (1 + Pf.cnts (l.take i) : Nat) most := by unfold upTo; omega
    refine num64 (by omega) (by omega) ?_
    refine cGv (ih t (mAt ht) hr (by omega) (by omega)) ?_
    refine nEq (x := upTo (1 + Pf.cnts (l.take (i + 1)) : Nat) most) ?_ ?_
    ·have hb2 : upTo (t.cnt : Int) (most - upTo (1 + Pf.cnts (l.take i) : Nat) most) ≤ 1000000000001 ∧ 1 ≤ upTo (t.cnt : Int) (most - upTo (1 + Pf.cnts (l.take i) : Nat) most) := by
      have := t.cnt_pos
      unfold upTo at hb h ⊢
      omega
     rw [wrap64 (by omega) (by omega), hc]
     unfold upTo at h ⊢; omega
    ·exact num64 (by omega) (by omega) ⟨i + 1, by omega, by omega, ⟨⟨rfl, rfl, rfl, rfl, rfl, trivial⟩, trivial, rfl, rfl⟩⟩
  ·obtain rfl : i = l.length := by omega
   rw [List.take_length]
   exact rGv (by rw [hge]) rfl
noncomputable def Pf.size (x : Pf) : Int := if x.cnt ≤ 200 then x.cnt else 0
theorem spec_ProofSize_spec {x : Pf} {v : Value} (hv : RepV μ x.d v) : Gives Tryz.prog 151 [v] μ (.int .i64 x.size) := by
 have hv0 := hv
 have w_ := Pf.invV hv
 obtain ⟨p, rfl⟩ := w_
 have hp := x.cnt_pos
 refine Spec.mk Tryz.func151 (by kernel_rfl) ?_
 intro r
 refine cGv (l20Count_spec x hv0 (by omega) (by omega)) ?_
 refine ifd (fun h => rGv ?_ rfl) (fun h => rGv ?_ rfl)
 ·unfold upTo at h
  rw [Pf.size, if_neg (by omega)]
 ·unfold upTo at h ⊢
  rw [Pf.size, if_pos (by omega)]
  congr 1; omega
theorem measure_spec {H : Mem} {r : Nat} : ∀ (g : Pf) {v : Value} {k : Int}, RepV μ g.d v → 0 ≤ k → k ≤ 200 → SpecH Tryz.prog 193 [v, .pointer (some ⟨r, 0, none⟩)] μ (intOn H r k) fun w μ' h' => μ' = μ ∧ ∃ a b : Int, w = .int .i64 a ∧ h' = intOn H r b ∧ 0 ≤ a ∧ a ≤ b - k ∧ k < b ∧ b ≤ 201 ∧ b ≤ k + g.cnt ∧ (b = k + g.cnt ∨ 200 < b) :=
 Pf.ind fun g ih v k hv h1 h2 => by
  have w_ := Pf.inv hv
  obtain ⟨p, rfl, -, hsl⟩ := w_
  have hn := maxLen_le hsl.max
  have hge := Pf.cnt_eq1 g
  generalize hl : g.kids = l at *
  refine SpecH.mk [] Tryz.func193 (by kernel_rfl) ?_
  intro r2
  refine oIn [.int .i64 k] rfl (box_at (set_self _ _ _)) ?_
  refine num64 (by omega) (by omega) ?_
  refine sIn (h := intOn H r k) (a := ⟨r, 0, none⟩) [.int .i64 k] 3 (set_self _ _ _) rfl (Nat.le_refl _) ?_
  have e : ∀ k n : Int, (intOn H r k).set r (.cells #[.int .i64 n] 3 (0, 0)) = intOn H r n := fun k n => Mem.set_set _ _ _ _
  refine lIn (fun z : Nat × Int × Int => z.1 ≤ l.length ∧ 0 ≤ z.2.1 ∧ z.2.1 ≤ z.2.2 - k - 1 ∧ k < z.2.2 ∧ z.2.2 ≤ 201 ∧ z.2.2 ≤ k + 1 + Pf.cnts (l.take z.1) ∧ (z.2.2 = k + 1 + Pf.cnts (l.take z.1) ∨ 200 < z.2.2))
   (fun (i, a, b) => ⟨[(1, .val (.pointer (some ⟨r, 0, none⟩))), (5, .val (.int .i64 a)), (15, .val (.slice p.2.1 l.length p.2.2)), (16, .val (.int .i64 l.length)), (17, .val (.int .i64 i))], [], 1, μ, intOn H r b⟩) (fun z => l.length - z.1)
   (0, 0, k + 1) ⟨Nat.zero_le _, Int.le_refl _, by dsimp only; omega, by dsimp only; omega, by dsimp only; omega, by dsimp only; simp [Pf.cnts], .inl (by simp [Pf.cnts])⟩ (fun (_, _, _) => ⟨rfl, rfl⟩) ⟨⟨rfl, rfl, rfl, rfl, rfl, trivial⟩, trivial, rfl, e _ _⟩ ?_
  rintro ⟨i, a, b⟩ ⟨hi, ha0, ha, hkb, hb, hbc, hor⟩
  dsimp only at hi ha0 ha hkb hb hbc hor
  refine ifd (fun h => ?_) (fun h => ?_)
  ·have w_ := aSo (l := l) (i := i) (by omega)
   obtain ⟨t, ht⟩ := w_
   have hc := Pf.cnts_take ht
   have hc' := Pf.cnts_le l (i + 1)
   have w_ := Pf.elem hsl ht
   obtain ⟨ad, p, hel, hr⟩ := w_
   refine eIn hel ?_
   intro r7
   refine oIn [.int .i64 b] rfl (box_at (set_self _ _ _)) ?_
   refine ifd (fun h => ?_) (fun h => ?_)
   ·exact rPl ⟨rfl, 0, b, rfl, rfl, Int.le_refl _, by omega, hkb, hb, by omega, .inr (by omega)⟩
   ·refine cOw (ih t (mAt ht) hr (k := b) (by omega) (by omega)) fun w μ' h' hle hap hR => ?_
    obtain ⟨e4, a2, b2, rfl, rfl, q1, q2, q3, q4, q5, q6⟩ := hR
    obtain rfl := e4.symm
    refine num64 (by omega) (by omega) ⟨(i + 1, if a2 > a then a2 else a, b2), ⟨by dsimp only; omega, by dsimp only; split <;> omega, by dsimp only; split <;> omega, by dsimp only; omega, by dsimp only; omega, by dsimp only; omega, ?_⟩, by dsimp only; omega, ⟨⟨rfl, rfl, rfl, rfl, rfl, trivial⟩, trivial, rfl, rfl⟩⟩
    dsimp only
    omega
  ·obtain rfl : i = l.length := by omega
   rw [List.take_length] at hbc hor
   exact num64 (by omega) (by omega) (rPl ⟨rfl, a + 1, b, rfl, rfl, by omega, by omega, hkb, hb, by omega, by omega⟩)
theorem impl_ProofSize_spec {x : Pf} {v : Value} (hv : RepV μ x.d v) : Spec Tryz.prog 153 [v] μ fun w μ' => w = .int .i64 x.size ∧ μ' = μ := by
 have hv0 := hv
 have w_ := Pf.invV hv
 obtain ⟨p, rfl⟩ := w_
 have hp := x.cnt_pos
 refine Spec.mkO [3] Tryz.func153 (by kernel_rfl) ?_
 intro r1 r3 hm3 ho3
 refine sIn [.int .i64 0] 3 (Mem.set_at _ _ _) rfl (Nat.le_refl _) ?_
 have e : ∀ (X : Mem) (a b : Int), (X.set r3 (.cells #[.int .i64 a] 3 (0, 0))).set r3 (.cells #[.int .i64 b] 3 (0, 0)) = intOn X r3 b := fun X a b => Mem.set_set _ _ _ _
 have key := measure_spec (μ := μ) (H := Mem.nil) (r := r3) x hv0 (k := 0) (by omega) (by omega)
 rw [← e Mem.nil 0 0] at key
 refine cOw key fun w μ' h' hle hap hR => ?_
 obtain ⟨e4, a, b, rfl, rfl, q1, q2, q3, q4, q5, q6⟩ := hR
 obtain rfl := e4.symm
 refine oIn [.int .i64 b] rfl (box_at (set_self _ _ _)) ?_
 refine ifd (fun h => rPl ⟨?_, rfl⟩) (fun h => ?_)
 ·rw [Pf.size, if_neg (by omega)]
 ·refine oIn [.int .i64 b] rfl (box_at (set_self _ _ _)) (rPl ⟨?_, rfl⟩)
  rw [Pf.size, if_pos (by omega)]
  congr 1; omega
end
end Go.Vx
namespace Go.Vx
open Go.Proofs Classical
section
variable {μ : Mem}
theorem RepS.take : ∀ (ds : List D) (a : Nat) {cs : List Value}, RepS μ ds cs → ∃ c1 c2, cs = c1 ++ c2 ∧ RepS μ (ds.take a) c1
 | [], a, cs, _ => ⟨[], cs, rfl, by rw [List.take_nil]; exact rfl⟩
 | d :: r, 0, cs, _ => ⟨[], cs, rfl, rfl⟩
 | d :: r, a + 1, cs, h => by
  obtain ⟨c1, c2, e, h1, h2⟩ := h
  have w_ := RepS.take r a h2
  obtain ⟨c3, c4, e2, h3⟩ := w_
  exact ⟨c1 ++ c3, c4, by rw [e, e2, List.append_assoc], c1, c3, rfl, h1, h3⟩
theorem Rep.cut {es n c a : Nat} {base : Option Addr} {xs : List D} (h : RepV μ (.sl es xs) (.slice base n c)) (ha : a ≤ n) : RepV μ (.sl es (xs.take a)) (.slice (if c = 0 then base else base.map (·.add (0 * es))) (a - 0) (c - 0)) := by
 have e : (if c = 0 then base else base.map (·.add (0 * es))) = base := by
  split
  ·rfl
  ·cases base <;> simp [Addr.add]
 rw [e, Nat.sub_zero, Nat.sub_zero]
 obtain ⟨b2, c2, e2, hl, hn, hor⟩ := h
 have e3 := (List.cons.inj e2).1
 cases e3
 have hta : (xs.take a).length = a := by rw [List.length_take]; omega
 refine ⟨base, c, by rw [hta], ⟨by rw [hta]; exact Nat.le_trans ha hl.le, by rw [hta]; exact Nat.le_trans ha hl.max⟩, fun x hx => hn x (List.mem_of_mem_take hx), ?_⟩
 rcases hor with h | ⟨a0, flat, h1, h2, h3⟩
 ·exact .inl (by rw [h, List.take_nil])
 ·have w_ := RepS.take xs a h3
  obtain ⟨c1, c2, e4, h4⟩ := w_
  exact .inr ⟨a0, c1, h1, fun j v hj => h2 j v (by rw [e4, List.getElem?_append_left (List.getElem?_eq_some_iff.1 hj).1]; exact hj), h4⟩
theorem Rep.lensC {es n c : Nat} {base : Option Addr} {xs : List D} (h : RepV μ (.sl es xs) (.slice base n c)) : n = xs.length ∧ n ≤ c := by
 obtain ⟨b2, c2, e2, hl, hn, hor⟩ := h
 have e3 := (List.cons.inj e2).1
 cases e3
 exact ⟨rfl, hl.le⟩
theorem Pf.valsV {x : Pf} {a b vs ks : Value} (h : RepV μ x.d (.agg #[a, b, vs, ks])) : RepV μ (.sl 4 (x.values.map Tm.d)) vs := by
 rw [Pf.d_eq] at h
 obtain ⟨cs, e, h⟩ := h
 obtain ⟨a0, t0, rfl, h0, h⟩ := h
 obtain ⟨a1, t1, rfl, h1, h⟩ := h
 obtain ⟨a2, t2, rfl, h2, h⟩ := h
 obtain ⟨a3, t3, rfl, h3, h⟩ := h
 obtain rfl : t3 = [] := h
 have h0 : a0 = [.string x.rel] := h0
 have h1 : a1 = [.int .i64 x.clause] := h1
 subst h0 h1
 have w_ := one_of (Rep.len _ _ h2)
 obtain ⟨v2, rfl⟩ := w_
 have w_ := one_of (Rep.len _ _ h3)
 obtain ⟨v3, rfl⟩ := w_
 have e2 : [a, b, vs, ks] = [.string x.rel, .int .i64 x.clause, v2, v3] := congrArg (fun v => match v with | Value.agg a => a.toList | _ => []) e
 have e3 : vs = v2 := (List.cons.inj (List.cons.inj (List.cons.inj e2).2).2).1
 rw [e3]; exact h2
end
noncomputable def Pf.vs (x : Pf) : List T := x.values.map Tm.toT
theorem Pf.vs_len (x : Pf) : x.vs.length = x.values.length := List.length_map ..
theorem Pf.vs_tm {x : Pf} (h : ∀ t ∈ x.values, GndT t) : x.vs.map T.tm = x.values := by
 have w_ := lift_ok fun t ht => (h t ht).1
 obtain ⟨xs, hxs, _⟩ := w_
 rw [Pf.vs, hxs, toTs_tm]
structure NodeAt (p : Pg) (x : Pf) (r : Rl) (c : List Gl) : Prop where
 rel : ∃ k : Nat, relAt p x.rel = k ∧ p.rels[k]? = some r
 len : (x.values.length : Int) = r.arity + r.locals
 gnd : ∀ t ∈ x.values, GndT t
 cls : ∃ (L : List (List Gl)) (i : Nat), r.body.cl = some L ∧ x.clause = i ∧ L[i]? = some c
 ok : ∀ g ∈ c, okS x.vs g
 neg : negF x.vs c = []
 pos : (posF x.vs c).length = x.kids.length
noncomputable def headP (p : Pg) (x : Pf) : F := ⟨x.rel, x.vs.take ((p.rels[(relAt p x.rel).toNat]?.getD (.mk ⟨#[]⟩ 0 0 (.mk 0 ⟨#[]⟩ [] []))).arity.toNat)⟩
inductive OkP (p : Pg) : Pf → Prop
 | mk {x : Pf} (r : Rl) (c : List Gl) (h : NodeAt p x r c) (kids : ∀ y ∈ x.kids, OkP p y) (hd : ∀ (i : Nat) (y : Pf), x.kids[i]? = some y → (posF x.vs c)[i]? = some (headP p y)) : OkP p x
theorem OkP.inv {p : Pg} {x : Pf} (h : OkP p x) : ∃ r c, NodeAt p x r c ∧ (∀ y ∈ x.kids, OkP p y) ∧ ∀ (i : Nat) (y : Pf), x.kids[i]? = some y → (posF x.vs c)[i]? = some (headP p y) := by
 cases h with
 | mk r c h1 h2 h3 => exact ⟨r, c, h1, h2, h3⟩
theorem NodeAt.uniq {p : Pg} {x : Pf} {r r' : Rl} {c c' : List Gl} (h : NodeAt p x r c) (h' : NodeAt p x r' c') : r = r' ∧ c = c' := by
 obtain ⟨k, e1, e2⟩ := h.rel
 obtain ⟨k', e1', e2'⟩ := h'.rel
 obtain rfl : k = k' := by omega
 rw [e2] at e2'
 cases e2'
 obtain ⟨L, i, f1, f2, f3⟩ := h.cls
 obtain ⟨L', i', f1', f2', f3'⟩ := h'.cls
 rw [f1] at f1'
 cases f1'
 obtain rfl : i = i' := by omega
 rw [f3] at f3'
 cases f3'
 exact ⟨rfl, rfl⟩
theorem headP_eq {p : Pg} {x : Pf} {k a : Nat} {r : Rl} (h1 : relAt p x.rel = k) (h2 : p.rels[k]? = some r) (h3 : r.arity = (a : Int)) : headP p x = ⟨x.rel, x.vs.take a⟩ := by
 rw [headP, h1, Int.toNat_natCast, h2, Option.getD_some, h3, Int.toNat_natCast]
end Go.Vx
namespace Go.Vx
open Go.Proofs Classical
section
variable {μ : Mem}
theorem l20Head_spec {p : Pg} {x : Pf} {vp v : Value} {r : Rl} {c : List Gl} (hp : RepV μ p.d vp) (hok : p.Ok) (hv : RepV μ x.d v) (h : NodeAt p x r c) :
  Spec Tryz.prog 192 [vp, v] μ fun w μ' => RepV μ' (headP p x).fc.d w ∧ μ' = μ := by
 have hp0 := hp
 have w_ := Pg.inv hp
 obtain ⟨q0, rfl, hrl⟩ := w_
 have hv0 := hv
 have w_ := Pf.inv hv
 obtain ⟨q, rfl, hvs, hks⟩ := w_
 have hvr := Pf.valsV hv0
 obtain ⟨k, hk, hr⟩ := h.rel
 have hrok := hok.2 k r hr
 have w_ := Int.eq_ofNat_of_zero_le hrok.ar0
 obtain ⟨a, ha⟩ := w_
 have hlo := hrok.lo0
 have hlen := h.len
 have hal : a ≤ x.values.length := by omega
 have hcap := (Rep.lensC hvr).2
 have w_ := Rl.elemA hrl hr
 obtain ⟨ad, q2, hel, _, _⟩ := w_
 refine Spec.mk Tryz.func192 (by kernel_rfl) ?_
 intro r2 r3 r4
 refine cGv (l14Find_spec hp0) ?_
 rw [hk]
 refine eIn hel ?_
 refine cut_intro 0 a rfl ha (Nat.zero_le _) (by omega) ?_
 refine rPl ⟨?_, rfl⟩
 have hcut := Rep.cut hvr hal
 rw [← Pf.vs_tm h.gnd] at hcut
 rw [headP_eq hk hr ha]
 rw [← List.map_take, ← List.map_take] at hcut
 have hl : (x.vs.take a).length = a - 0 := by rw [List.length_take, Pf.vs_len]; omega
 rw [← hl] at hcut ⊢
 exact F.mkV (f := ⟨x.rel, x.vs.take a⟩) hcut
set_option maxHeartbeats 4000000 in
theorem l20Ok_spec {p : Pg} (hw : p.d.wd) (hok : p.Ok) : ∀ (x : Pf) {μ : Mem} {v vp : Value}, RepV μ p.d vp → RepV μ x.d v → x.d.wd → Spec Tryz.prog 152 [vp, v] μ fun w _ => w = .bool (decide (OkP p x)) :=
 Pf.ind fun x ih μ v vp hp hv hwx => by
  have hp0 := hp
  have w_ := Pg.inv hp
  obtain ⟨q0, rfl, hrl⟩ := w_
  have hv0 := hv
  have w_ := Pf.inv hv
  obtain ⟨q, rfl, hvs, hks⟩ := w_
  have hn1 := maxLen_le hvs.max
  have hn2 := maxLen_le hks.max
  have hn3 := hok.1
  refine Spec.mk Tryz.func152 (by kernel_rfl) ?_
  intro r2 r3
  refine cGv (l14Find_spec hp0) ?_
  refine ifd (fun hneg => rPl (isF fun k => ?_)) (fun hge => ?_)
  ·obtain ⟨r, c, h, _⟩ := k.inv
   obtain ⟨k', h1, _⟩ := h.rel
   omega
  have w_ := relAt_get (show 0 ≤ relAt p x.rel by omega)
  obtain ⟨k, r, hk, hr, _⟩ := w_
  have hrok := hok.2 k r hr
  rw [hk]
  have w_ := Rl.elemA hrl hr
  obtain ⟨ad, q2, hel, hrv, hb⟩ := w_
  have hb : RepV μ r.body.d (.agg (r.body.cs q2).toArray) := hb
  have w_ := Int.eq_ofNat_of_zero_le hrok.ar0
  obtain ⟨a, ha⟩ := w_
  have w_ := Int.eq_ofNat_of_zero_le hrok.lo0
  obtain ⟨lo, hlo⟩ := w_
  have har4 := hrok.ar4
  have hlo8 := hrok.lo8
  have hsz := hrok.size
  have node : ∀ {r' : Rl} {c : List Gl}, NodeAt p x r' c → r' = r := fun h => by
   obtain ⟨k', e1, e2⟩ := h.rel
   obtain rfl : k' = k := by omega
   rw [hr] at e2
   cases e2; rfl
  refine eIn hel (eIn hel ?_)
  refine num64 (by omega) (by omega) ?_
  refine ifnd (fun hne => rPl (isF fun k => ?_)) (fun hlen => ?_)
  ·obtain ⟨r', c, h, _⟩ := k.inv
   obtain rfl := node h
   exact hne h.len
  refine eIn hel ?_
  refine cPl (ClausesOf_spec hb (rel_wd hw hr) ⟨hrok.body, by omega⟩) fun v3 μ3 hle3 hR3 => ?_
  cases hL : r.body.cl with
  | none =>
   rw [hL] at hR3
   obtain rfl := hR3
   refine iIn (fun _ => rPl (isF fun k => ?_)) (fun h => nomatch h)
   obtain ⟨r', c, h, _⟩ := k.inv
   obtain rfl := node h
   obtain ⟨L, i, h1, _⟩ := h.cls
   rw [hL] at h1; cases h1
  | some L =>
  rw [hL] at hR3
  obtain ⟨tv, rfl, hLr⟩ := hR3
  obtain ⟨pv, rfl⟩ := hLr.inv
  have hLb := Gl.cl_bnd r.body hL
  have hL64 := hLb.2
  refine iIn (fun h => nomatch h) (fun _ => ?_)
  refine num64 (by omega) (by omega) ?_
  refine cGv (l01In_spec _ _ _ _) ?_
  refine ifnd (fun hout => rPl (isF fun k => ?_)) (fun hin => ?_)
  ·obtain ⟨r', c, h, _⟩ := k.inv
   obtain rfl := node h
   obtain ⟨L', i, h1, h2, h3⟩ := h.cls
   rw [hL] at h1; cases h1
   have := (List.getElem?_eq_some_iff.1 h3).1
   exact hout ⟨by omega, by omega⟩
  have w_ := Int.eq_ofNat_of_zero_le hin.1
  obtain ⟨i, hi⟩ := w_
  have hiL : i < L.length := by have := hin.2; omega
  have w_ := aSo (l := L) (i := i) hiL
  obtain ⟨c, hc⟩ := w_
  have hci : c.length ≤ 1000 := by have := hLb.1 c (mAt hc); omega
  intro r8
  refine lIn (fun z : Nat × Option Nat × Nat × List Value => z.1 ≤ x.values.length ∧ (∀ t ∈ x.values.take z.1, GndT t) ∧ Rows μ3 5 (((valsB (x.vs.take z.1)).map B.bd).map Bd.d) z.2.2.2)
   (fun (n, b, cp, ys) => ⟨[(2, .loc 0 r2 0), (3, .loc 1 r3 0), (5, .val (.int .i64 k)), (6, .val (.slice pv.1 L.length pv.2)), (8, .row 2 b ys.length cp), (63, .val (.slice q.1.1 x.values.length q.1.2)), (64, .val (.int .i64 x.values.length)), (65, .val (.int .i64 n))], [(0, some (.cells r2 [.val (.slice q0.1 p.rels.length q0.2)] 45)), (1, some (.cells r3 [.val (.string x.rel), .val (.int .i64 x.clause), .val (.slice q.1.1 x.values.length q.1.2), .val (.slice q.2.1 x.kids.length q.2.2)] 67)), (2, some (.row b cp 98 5 ys))], 3, μ3, Mem.nil⟩) (fun z => x.values.length - z.1)
   (0, some r8, 0, []) ⟨Nat.zero_le _, by simp, .nil⟩ (fun (_, _, _, _) => ⟨rfl, rfl⟩) ⟨⟨rfl, rfl, rfl, rfl, rfl, rfl, rfl, rfl, trivial⟩, ⟨rfl, rfl, rfl, trivial⟩, rfl, rfl⟩ ?_
  rintro ⟨n, b, cp, ys⟩ ⟨hn, hall, hrows⟩
  dsimp only at hn hall hrows
  have hyl := hrows.len
  simp only [List.length_map, valsB_len, List.length_take, Pf.vs_len] at hyl
  refine ifd (fun hlt => ?_) (fun hlt => ?_)
  ·have w_ := aSo (l := x.values) (i := n) (by omega)
   obtain ⟨t, ht⟩ := w_
   have w_ := Tm.elem (hvs.mono hle3) ht
   obtain ⟨ad1, p1, hel1, hrt⟩ := w_
   refine eIn hel1 ?_
   intro r10
   refine cGv (spec_IsGround_any t hrt (D.wds_mem (by rw [Pf.d_eq] at hwx; exact hwx.2.2.1) _ (mAt (at_map (f := Tm.d) ht)))) ?_
   refine ifnd (fun h => rPl (isF fun k => ?_)) (fun hg => ?_)
   ·obtain ⟨r', c', h', _⟩ := k.inv
    exact h (h'.gnd t (mAt ht))
   intro r77
   refine gIn ?_ ?_ fun b' c' _ => ?_
   ·show (ys.length + 1) * 64 ≤ _; omega
   ·exact Nat.le_trans (m := 100000000) (show ys.length + 1 ≤ _ by omega) (by decide)
   refine num64 (by omega) (by omega) ⟨(n + 1, b', c', _), ⟨by dsimp only; omega, ?_, ?_⟩, by dsimp only; omega, ⟨⟨rfl, rfl, rfl, rfl, rfl, rfl, rfl, rfl, trivial⟩, ⟨rfl, rfl, rfl, trivial⟩, rfl, rfl⟩⟩
   ·dsimp only
    rw [List.take_add_one, ht, Option.toList_some]
    intro y hy
    rcases List.mem_append.1 hy with hy | hy
    ·exact hall y hy
    ·rw [List.mem_singleton.1 hy]; exact hg
   ·dsimp only
    have hgt : GndT t := hg
    have w_ := hgt.1.lift
    obtain ⟨u, _, hu⟩ := w_
    subst hu
    have e : x.vs[n]? = some u := by rw [Pf.vs, List.getElem?_map, ht, Option.map_some, T.toT_tm]
    rw [← valsB_take, List.take_add_one, valsB_at e, Option.toList_some, valsB_take]
    simp only [List.map_append, List.map_cons, List.map_nil]
    exact hrows.append (Rows.one (RepV.bd hrt) (Bd.d_n _))
  obtain rfl : n = x.values.length := by omega
  rw [List.take_length] at hall
  rw [← Pf.vs_len, List.take_length] at hrows
  have hLs := (Cls.sl hLr).1
  have w_ := cls_elem hLs hc
  obtain ⟨adc, pc, helc, hrc⟩ := w_
  have hcs : Sl μ3 4 pc.1 c.length (c.map Gl.d) := by
   have w_ := Rep.sl (xs := c.map Gl.d) hrc
   obtain ⟨b', c', e1, hs⟩ := w_
   have w_ := Value.slice.inj e1
   obtain ⟨rfl, _, _⟩ := w_
   simpa using hs
  have hG : ∀ g ∈ c, ClG g := fun g hg => ClG.of hok hr hL (mAt hc) hg
  have hvl : x.vs.length = a + lo := by rw [Pf.vs_len]; omega
  rw [← hi] at helc
  have mkN : (∀ g ∈ c, okS x.vs g) → negF x.vs c = [] → (posF x.vs c).length = x.kids.length → NodeAt p x r c := fun h1 h2 h3 => ⟨⟨k, hk, hr⟩, hlen, hall, ⟨L, i, hL, hi, hc⟩, h1, h2, h3⟩
  have node2 : ∀ {r' : Rl} {c' : List Gl}, NodeAt p x r' c' → c' = c := fun h => by
   obtain rfl := node h
   obtain ⟨L', i', h1, h2, h3⟩ := h.cls
   rw [hL] at h1; cases h1
   obtain rfl : i' = i := by omega
   rw [hc] at h3; cases h3; rfl
  refine eIn (hel.mono hle3) ?_
  refine eIn helc ?_
  refine call_frz [2] fun μ4 hle4 hno4 hat4 => ?_
  have hsl : Sl μ4 5 (b.map fun r => (⟨r, 0, none⟩ : Addr)) x.vs.length (((valsB x.vs).map B.bd).map Bd.d) := by
   have k := Rows.sl hat4 (hrows.mono hle4) (Nat.le_trans (m := 1000) (by omega) (by decide))
   have w_ := Rep.sl k
   obtain ⟨bz, cz, ez, hs⟩ := w_
   have w_ := Value.slice.inj ez
   obtain ⟨e1, e2, _⟩ := w_
   rw [List.length_map, List.length_map, valsB_len] at hs
   rwa [← e1] at hs
  have hyl2 : ys.length = x.vs.length := by omega
  have hrule := l18Rule_spec (cc := pc.2) (bc := cp) (i := i) (vs := x.vs) (a := a) ((hrv.mono hle3).mono hle4) ha (by omega) (by omega) (hcs.mono hle4) hci hG hsl
  rw [← hi, ← hyl2] at hrule
  refine call_go hrule fun v5 μ5 hle5 hR5 => ?_
  obtain ⟨ru, rv, rfl, hrr, hru⟩ := hR5
  have w_ := Ru.inv hrr
  obtain ⟨pr, rfl, h81, h82, h83, h84⟩ := w_
  intro r11
  refine ifnd (fun hS => rPl (isF fun k => ?_)) (fun hS => ?_)
  ·obtain ⟨r', c', h', _⟩ := k.inv
   obtain rfl := node2 h'
   exact hS h'.ok
  have w_ := hru hS
  subst w_
  refine ifd (fun hN => rPl (isF fun k => ?_)) (fun hN => ?_)
  ·obtain ⟨r', c', h', _⟩ := k.inv
   obtain rfl := node2 h'
   have h1 := h'.neg
   have hN : ((ruleOf r i c' x.vs).neg.length : Int) > 0 := hN
   rw [show (ruleOf r i c' x.vs).neg = negF x.vs c' from rfl, h1] at hN
   exact absurd hN (by decide)
  refine ifnd (fun hP => rPl (isF fun k => ?_)) (fun hP => ?_)
  ·obtain ⟨r', c', h', _⟩ := k.inv
   obtain rfl := node2 h'
   exact hP (congrArg Int.ofNat h'.pos)
  have hN : negF x.vs c = [] := List.eq_nil_of_length_eq_zero (by
   have hN : ¬ ((negF x.vs c).length : Int) > 0 := hN
   omega)
  have hP : ((posF x.vs c).length : Int) = x.kids.length := hP
  have hnode := mkN hS hN (by omega)
  have hle : μ.Le μ5 := (hle3.trans hle4).trans hle5
  refine lIn (fun z : Nat × Mem => z.1 ≤ x.kids.length ∧ μ5.Le z.2 ∧ ∀ (j : Nat) (y : Pf), j < z.1 → x.kids[j]? = some y → OkP p y ∧ (posF x.vs c)[j]? = some (headP p y))
   (fun (n, μ') => ⟨[(2, .loc 0 r2 0), (11, .loc 3 r11 0), (115, .val (.slice q.2.1 x.kids.length q.2.2)), (116, .val (.int .i64 x.kids.length)), (117, .val (.int .i64 n))], [(0, some (.cells r2 [.val (.slice q0.1 p.rels.length q0.2)] 45)), (3, some (.cells r11 [.val (.string r.name), .val (.slice pr.1.1 (x.vs.take r.arity.toNat).length pr.1.2), .val (.int .i64 i), .val (.slice pr.2.1.1 x.vs.length pr.2.1.2), .val (.slice pr.2.2.1.1 (posF x.vs c).length pr.2.2.1.2), .val (.slice pr.2.2.2.1 (negF x.vs c).length pr.2.2.2.2)] 196))], 4, μ', Mem.nil⟩) (fun z => x.kids.length - z.1)
   (0, μ5) ⟨Nat.zero_le _, Mem.Le.refl _, fun j y h => absurd h (Nat.not_lt_zero _)⟩ (fun (_, _) => ⟨rfl, rfl⟩) ⟨⟨rfl, rfl, rfl, rfl, rfl, trivial⟩, ⟨rfl, rfl, trivial⟩, rfl, rfl⟩ ?_
  rintro ⟨n, μ'⟩ ⟨hn, hle6, hkids⟩
  dsimp only at hn hle6 hkids
  refine ifd (fun hlt => ?_) (fun hlt => ?_)
  rotate_left
  ·obtain rfl : n = x.kids.length := by omega
   refine rPl (isT (OkP.mk r c hnode (fun y hy => ?_) fun j y hy => (hkids j y (List.getElem?_eq_some_iff.1 hy).1 hy).2))
   have w_ := List.mem_iff_getElem?.1 hy
   obtain ⟨j, hj⟩ := w_
   exact (hkids j y (List.getElem?_eq_some_iff.1 hj).1 hj).1
  have w_ := aSo (l := x.kids) (i := n) (by omega)
  obtain ⟨y, hy⟩ := w_
  have w_ := Pf.elem (hks.mono (hle.trans hle6)) hy
  obtain ⟨ady, py, hely, hry⟩ := w_
  refine eIn hely ?_
  intro r14
  refine cPl (ih y (mAt hy) (hp0.mono (hle.trans hle6)) hry (D.wds_mem (by rw [Pf.d_eq] at hwx; exact hwx.2.2.2.1) _ (mAt (at_map (f := Pf.d) hy)))) fun v7 μ7 hle7 hR7 => ?_
  obtain rfl := hR7
  refine ifnd (fun h => rPl (isF fun k => ?_)) (fun hyok => ?_)
  ·obtain ⟨r', c', h', h2, _⟩ := k.inv
   exact h (h2 y (mAt hy))
  have hyok : OkP p y := hyok
  obtain ⟨ry, cy, hny, _, _⟩ := hyok.inv
  have w_ := aSo (l := posF x.vs c) (i := n) (by omega)
  obtain ⟨f, hf⟩ := w_
  have h83 : Sl μ5 2 pr.2.2.1.1 (posF x.vs c).length (((posF x.vs c).map F.fc).map Fc.d) := h83
  have w_ := Fc.elem (l := (posF x.vs c).map F.fc) (i := n) (x := f.fc) (h83.mono hle6) (by rw [List.getElem?_map, hf]; rfl)
  obtain ⟨adf, pf, helf, hrf⟩ := w_
  refine eIn helf ?_
  refine cPl (l20Head_spec (hp0.mono ((hle.trans hle6).trans hle7)) hok (hry.mono hle7) hny) fun v8 μ8 hle8 hR8 => ?_
  obtain ⟨hR8, e8⟩ := hR8
  obtain rfl := e8.symm
  refine cGv (l18Cmp_spec hR8 (hrf.mono (hle7.trans hle8))) ?_
  refine ifnd (fun h => rPl (isF fun k => ?_)) (fun hz => ?_)
  ·obtain ⟨r', c', h', _, h3⟩ := k.inv
   obtain rfl := node2 h'
   have := h3 n y hy
   rw [hf] at this
   cases this
   exact h (cmpF_ord.zero _ _ |>.2 rfl)
  have hz := (cmpF_ord.zero _ _).1 hz
  refine num64 (by omega) (by omega) ⟨(n + 1, μ7), ⟨by dsimp only; omega, hle6.trans hle7, fun j z hj hz2 => ?_⟩, by dsimp only; omega, ⟨⟨rfl, rfl, rfl, rfl, rfl, trivial⟩, ⟨rfl, rfl, trivial⟩, rfl, rfl⟩⟩
  dsimp only at hj
  rcases Nat.lt_or_ge j n with h | h
  ·exact hkids j z h hz2
  ·obtain rfl : j = n := by omega
   rw [hy] at hz2
   cases hz2
   exact ⟨hyok, by rw [hf, hz]⟩
end
end Go.Vx
namespace Go.Vx
open Go.Proofs Classical
theorem posF_at {vs : List T} {c : List Gl} {m : Nat} {g : Gl} (h : c[m]? = some g) (h9 : g.kind = 9) : (posF vs c)[(posF vs (c.take m)).length]? = some (callF vs g) := by
 have e : posF vs c = posF vs (c.take (m + 1)) ++ posF vs (c.drop (m + 1)) := by
  rw [posF, posF, posF, ← List.map_append, ← List.filter_append, List.take_append_drop]
 rw [e, posF_succ h, if_pos h9, List.append_assoc, List.getElem?_append_right (Nat.le_refl _), Nat.sub_self]
 rfl
theorem posF_lt {vs : List T} {c : List Gl} {m : Nat} {g : Gl} (h : c[m]? = some g) (h9 : g.kind = 9) : (posF vs (c.take m)).length < (posF vs c).length := (List.getElem?_eq_some_iff.1 (posF_at (vs := vs) h h9)).1
theorem negF_not {vs : List T} {c : List Gl} {g : Gl} (h : g ∈ c) (h10 : g.kind = 10) : negF vs c ≠ [] := fun e => by
 have : callF vs g.kid ∈ negF vs c := List.mem_map.2 ⟨g, List.mem_filter.2 ⟨h, by simpa using h10⟩, rfl⟩
 rw [e] at this
 cases this
theorem okS_else {vs xs : List T} {g : Gl} (h9 : g.kind ≠ 9) (h10 : g.kind ≠ 10) (hx : g.terms = xs.map T.tm) : okS vs g ↔ testT g.kind (xs.map (T.subst (valF vs))) := by
 have e := okG_else (U := []) (vs := vs) h9 h10 hx
 rw [← e, okG, if_neg h9, if_neg h10, okS]
 exact ⟨fun h => h h9 h10, fun h _ _ => h⟩
section
variable {μ : Mem}
theorem proofFact_spec {p : Pg} {x : Pf} {vp v : Value} {r : Rl} {c : List Gl} (hp : RepV μ p.d vp) (hok : p.Ok) (hv : RepV μ x.d v) (h : NodeAt p x r c) :
  Spec Tryz.prog 195 [vp, v] μ fun w μ' => RepV μ' (headP p x).fc.d w ∧ μ' = μ := by
 have hp0 := hp
 have w_ := Pg.inv hp
 obtain ⟨q0, rfl, hrl⟩ := w_
 have hv0 := hv
 have w_ := Pf.inv hv
 obtain ⟨q, rfl, hvs, hks⟩ := w_
 have hvr := Pf.valsV hv0
 obtain ⟨k, hk, hr⟩ := h.rel
 have hrok := hok.2 k r hr
 have w_ := Int.eq_ofNat_of_zero_le hrok.ar0
 obtain ⟨a, ha⟩ := w_
 have hlo := hrok.lo0
 have hlen := h.len
 have hal : a ≤ x.values.length := by omega
 have hcap := (Rep.lensC hvr).2
 have w_ := Rl.elemA hrl hr
 obtain ⟨ad, q2, hel, _, _⟩ := w_
 refine Spec.mk Tryz.func195 (by kernel_rfl) ?_
 intro r2 r3 r4
 refine cGv (relation_spec hp0) ?_
 rw [hk]
 refine eIn hel ?_
 refine cut_intro 0 a rfl ha (Nat.zero_le _) (by omega) ?_
 refine rPl ⟨?_, rfl⟩
 have hcut := Rep.cut hvr hal
 rw [← Pf.vs_tm h.gnd] at hcut
 rw [headP_eq hk hr ha]
 rw [← List.map_take, ← List.map_take] at hcut
 have hl : (x.vs.take a).length = a - 0 := by rw [List.length_take, Pf.vs_len]; omega
 rw [← hl] at hcut ⊢
 exact F.mkV (f := ⟨x.rel, x.vs.take a⟩) hcut
set_option maxHeartbeats 4000000 in
theorem proofOk_spec {p : Pg} (hok : p.Ok) : ∀ (x : Pf) {μ : Mem} {v vp : Value}, RepV μ p.d vp → RepV μ x.d v → Spec Tryz.prog 154 [vp, v] μ fun w _ => w = .bool (decide (OkP p x)) :=
 Pf.ind fun x ih μ v vp hp hv => by
  have hp0 := hp
  have w_ := Pg.inv hp
  obtain ⟨q0, rfl, hrl⟩ := w_
  have hv0 := hv
  have w_ := Pf.inv hv
  obtain ⟨q, rfl, hvs, hks⟩ := w_
  have hn1 := maxLen_le hvs.max
  have hn2 := maxLen_le hks.max
  have hn3 := hok.1
  refine Spec.mk Tryz.func154 (by kernel_rfl) ?_
  intro r2 r3
  refine cGv (relation_spec hp0) ?_
  refine ifd (fun hneg => rPl (isF fun k => ?_)) (fun hge => ?_)
  ·obtain ⟨r, c, h, _⟩ := k.inv
   obtain ⟨k', h1, _⟩ := h.rel
   omega
  have w_ := relAt_get (show 0 ≤ relAt p x.rel by omega)
  obtain ⟨k, r, hk, hr, _⟩ := w_
  have hrok := hok.2 k r hr
  rw [hk]
  have w_ := Rl.elemA hrl hr
  obtain ⟨ad, q2, hel, hrv, hb⟩ := w_
  have hb : RepV μ r.body.d (.agg (r.body.cs q2).toArray) := hb
  have w_ := Int.eq_ofNat_of_zero_le hrok.ar0
  obtain ⟨a, ha⟩ := w_
  have w_ := Int.eq_ofNat_of_zero_le hrok.lo0
  obtain ⟨lo, hlo⟩ := w_
  have har4 := hrok.ar4
  have hlo8 := hrok.lo8
  have hsz := hrok.size
  have node : ∀ {r' : Rl} {c : List Gl}, NodeAt p x r' c → r' = r := fun h => by
   obtain ⟨k', e1, e2⟩ := h.rel
   obtain rfl : k' = k := by omega
   rw [hr] at e2
   cases e2; rfl
  refine eIn hel (eIn hel ?_)
  refine num64 (by omega) (by omega) ?_
  refine ifnd (fun hne => rPl (isF fun k => ?_)) (fun hlen => ?_)
  ·obtain ⟨r', c, h, _⟩ := k.inv
   obtain rfl := node h
   exact hne h.len
  refine lIn (fun n : Nat => n ≤ x.values.length ∧ (∀ t ∈ x.values.take n, GndT t))
   (fun n => ⟨[(2, .loc 0 r2 0), (3, .loc 1 r3 0), (5, .val (.int .i64 k)), (39, .val (.slice q.1.1 x.values.length q.1.2)), (40, .val (.int .i64 x.values.length)), (41, .val (.int .i64 n))], [(0, some (.cells r2 [.val (.slice q0.1 p.rels.length q0.2)] 45)), (1, some (.cells r3 [.val (.string x.rel), .val (.int .i64 x.clause), .val (.slice q.1.1 x.values.length q.1.2), .val (.slice q.2.1 x.kids.length q.2.2)] 67))], 2, μ, Mem.nil⟩) (fun n => x.values.length - n)
   0 ⟨Nat.zero_le _, by simp⟩ (fun _ => ⟨rfl, rfl⟩) ⟨⟨rfl, rfl, rfl, rfl, rfl, rfl, trivial⟩, ⟨rfl, rfl, trivial⟩, rfl, rfl⟩ ?_
  rintro n ⟨hn, hall⟩
  refine ifd (fun hlt => ?_) (fun hlt => ?_)
  ·have w_ := aSo (l := x.values) (i := n) (by omega)
   obtain ⟨t, ht⟩ := w_
   have w_ := Tm.elem hvs ht
   obtain ⟨ad1, p1, hel1, hrt⟩ := w_
   refine eIn hel1 ?_
   intro r7
   refine cGv (impl_IsGround_any t hrt) ?_
   refine ifnd (fun h => rPl (isF fun k => ?_)) (fun hg => ?_)
   ·obtain ⟨r', c', h', _⟩ := k.inv
    exact h (h'.gnd t (mAt ht))
   refine num64 (by omega) (by omega) ⟨n + 1, ⟨by omega, ?_⟩, by omega, ⟨⟨rfl, rfl, rfl, rfl, rfl, rfl, trivial⟩, ⟨rfl, rfl, trivial⟩, rfl, rfl⟩⟩
   rw [List.take_add_one, ht, Option.toList_some]
   intro y hy
   rcases List.mem_append.1 hy with hy | hy
   ·exact hall y hy
   ·rw [List.mem_singleton.1 hy]; exact hg
  obtain rfl : n = x.values.length := by omega
  rw [List.take_length] at hall
  refine eIn hel ?_
  refine cPl (clausesOf_spec r.body hb hrok.body (by omega)) fun v3 μ3 hle3 hR3 => ?_
  cases hL : r.body.cl with
  | none =>
   rw [hL] at hR3
   obtain rfl := hR3
   refine iIn (fun _ => rPl (isF fun k => ?_)) (fun h => nomatch h)
   obtain ⟨r', c, h, _⟩ := k.inv
   obtain rfl := node h
   obtain ⟨L, i, h1, _⟩ := h.cls
   rw [hL] at h1; cases h1
  | some L =>
  rw [hL] at hR3
  obtain ⟨tv, rfl, hLr⟩ := hR3
  obtain ⟨pv, rfl⟩ := hLr.inv
  have hLb := Gl.cl_bnd r.body hL
  have hL64 := hLb.2
  refine iIn (fun h => nomatch h) (fun _ => ?_)
  refine ifd (fun hout => rPl (isF fun k => ?_)) (fun hin0 => ?_)
  ·obtain ⟨r', c, h, _⟩ := k.inv
   obtain rfl := node h
   obtain ⟨L', i, h1, h2, h3⟩ := h.cls
   omega
  refine ifd (fun hout => rPl (isF fun k => ?_)) (fun hin => ?_)
  ·obtain ⟨r', c, h, _⟩ := k.inv
   obtain rfl := node h
   obtain ⟨L', i, h1, h2, h3⟩ := h.cls
   rw [hL] at h1; cases h1
   have := (List.getElem?_eq_some_iff.1 h3).1
   omega
  have w_ := Int.eq_ofNat_of_zero_le (show 0 ≤ x.clause by omega)
  obtain ⟨i, hi⟩ := w_
  have hiL : i < L.length := by omega
  have w_ := aSo (l := L) (i := i) hiL
  obtain ⟨c, hc⟩ := w_
  have hci : c.length ≤ 1000 := by have := hLb.1 c (mAt hc); omega
  have hLs := (Cls.sl hLr).1
  have w_ := cls_elem hLs hc
  obtain ⟨adc, pc, helc, hrc⟩ := w_
  have hcs : Sl μ3 4 pc.1 c.length (c.map Gl.d) := by
   have w_ := Rep.sl (xs := c.map Gl.d) hrc
   obtain ⟨b', c', e1, hs⟩ := w_
   have w_ := Value.slice.inj e1
   obtain ⟨rfl, _, _⟩ := w_
   simpa using hs
  have hG : ∀ g ∈ c, ClG g := fun g hg => ClG.of hok hr hL (mAt hc) hg
  have hvl : x.vs.length = a + lo := by rw [Pf.vs_len]; omega
  have hvtm := Pf.vs_tm hall
  rw [← hi] at helc
  have node2 : ∀ {r' : Rl} {c' : List Gl}, NodeAt p x r' c' → c' = c := fun h => by
   obtain rfl := node h
   obtain ⟨L', i', h1, h2, h3⟩ := h.cls
   rw [hL] at h1; cases h1
   obtain rfl : i' = i := by omega
   rw [hc] at h3; cases h3; rfl
  refine eIn helc ?_
  refine lIn (fun z : Nat × Nat × Mem => z.1 ≤ c.length ∧ μ3.Le z.2.2 ∧ z.2.1 = (posF x.vs (c.take z.1)).length ∧ z.2.1 ≤ x.kids.length ∧ (∀ g ∈ c.take z.1, okS x.vs g) ∧ (∀ g ∈ c.take z.1, g.kind ≠ 10) ∧ ∀ (j : Nat) (y : Pf), j < z.2.1 → x.kids[j]? = some y → OkP p y ∧ (posF x.vs c)[j]? = some (headP p y))
   (fun (m, kd, μ') => ⟨[(2, .loc 0 r2 0), (3, .loc 1 r3 0), (10, .val (.int .i64 kd)), (77, .val (.slice pc.1 c.length pc.2)), (78, .val (.int .i64 c.length)), (79, .val (.int .i64 m))], [(0, some (.cells r2 [.val (.slice q0.1 p.rels.length q0.2)] 45)), (1, some (.cells r3 [.val (.string x.rel), .val (.int .i64 x.clause), .val (.slice q.1.1 x.values.length q.1.2), .val (.slice q.2.1 x.kids.length q.2.2)] 67))], 2, μ', Mem.nil⟩) (fun z => c.length - z.1)
   (0, 0, μ3) ⟨Nat.zero_le _, Mem.Le.refl _, rfl, Nat.zero_le _, by simp, by simp, fun j y h => absurd h (Nat.not_lt_zero _)⟩ (fun (_, _, _) => ⟨rfl, rfl⟩) ⟨⟨rfl, rfl, rfl, rfl, rfl, rfl, trivial⟩, ⟨rfl, rfl, trivial⟩, rfl, rfl⟩ ?_
  rintro ⟨m, kd, μ4⟩ ⟨hm, hle4, hkd, hkl, hokS, hno10, hkids⟩
  dsimp only at hm hle4 hkd hkl hokS hno10 hkids
  refine ifd (fun hlt => ?_) (fun hlt => ?_)
  rotate_left
  ·obtain rfl : m = c.length := by omega
   rw [List.take_length] at hkd hokS hno10
   refine rPl (congrArg Value.bool (decide_eq_decide.2 ⟨fun h => ?_, fun k => ?_⟩))
   ·have hneg : negF x.vs c = [] := by
     rw [negF, List.filter_eq_nil_iff.2 fun g hg => by simpa using hno10 g hg]; rfl
    have hnode : NodeAt p x r c := ⟨⟨k, hk, hr⟩, hlen, hall, ⟨L, i, hL, hi, hc⟩, hokS, hneg, by omega⟩
    refine OkP.mk r c hnode (fun y hy => ?_) fun j y hy => (hkids j y (by have := (List.getElem?_eq_some_iff.1 hy).1; omega) hy).2
    have w_ := List.mem_iff_getElem?.1 hy
    obtain ⟨j, hj⟩ := w_
    exact (hkids j y (by have := (List.getElem?_eq_some_iff.1 hj).1; omega) hj).1
   ·obtain ⟨r', c', h', _⟩ := k.inv
    obtain rfl := node2 h'
    have := h'.pos
    omega
  have w_ := aSo (l := c) (i := m) (by omega)
  obtain ⟨g, hg⟩ := w_
  have w_ := Gl.elem (hcs.mono hle4) hg
  obtain ⟨adg, pg, helg, hrg⟩ := w_
  refine eIn helg ?_
  intro r12
  have w_ := ClV.of (n := a + lo) hok hr hL (mAt hc) (mAt hg) (by omega)
  obtain ⟨⟨xs, hxs⟩, _⟩ := w_
  have hG1 := hG g (mAt hg)
  have hstep : ∀ y ∈ c.take (m + 1), y ∈ c.take m ∨ y = g := fun y hy => by
   rw [List.take_add_one, hg, Option.toList_some] at hy
   rcases List.mem_append.1 hy with hy | hy
   ·exact .inl hy
   ·exact .inr (List.mem_singleton.1 hy)
  refine ifd (fun h10 => rPl (isF fun k => ?_)) (fun h10 => ?_)
  ·obtain ⟨r', c', h', _⟩ := k.inv
   obtain rfl := node2 h'
   exact negF_not (mAt hg) h10 h'.neg
  have hno2 : ∀ y ∈ c.take (m + 1), y.kind ≠ 10 := fun y hy => by
   rcases hstep y hy with h | rfl
   ·exact hno10 y h
   ·exact h10
  refine ifd (fun h9 => ?_) (fun h9 => ?_)
  rotate_left
  ·have hvl4 : Sl μ4 4 q.1.1 x.vs.length ((x.vs.map T.tm).map Tm.d) := by
    rw [hvtm, Pf.vs_len]; exact (hvs.mono hle3).mono hle4
   have htrue := trueWith_spec (vc := q.1.2) hvl4 hrg hxs.terms hxs.len (fun y hy n hn => by have := hxs.low y hy n hn; omega) (by have := hG1.simple; rwa [hxs.terms, List.length_map] at this)
   rw [Pf.vs_len] at htrue
   refine cPl htrue fun v5 μ5 hle5 hR5 => ?_
   obtain rfl := hR5
   refine ifnd (fun hf => rPl (isF fun k => ?_)) (fun ht => ?_)
   ·obtain ⟨r', c', h', _⟩ := k.inv
    obtain rfl := node2 h'
    exact hf ((okS_else h9 h10 hxs.terms).1 (h'.ok g (mAt hg)))
   refine num64 (by omega) (by omega) ⟨(m + 1, kd, μ5), ⟨by dsimp only; omega, hle4.trans hle5, by dsimp only; rw [posF_succ hg, if_neg h9, List.append_nil]; exact hkd, hkl, fun y hy => ?_, hno2, hkids⟩, by dsimp only; omega, ⟨⟨rfl, rfl, rfl, rfl, rfl, rfl, trivial⟩, ⟨rfl, rfl, trivial⟩, rfl, rfl⟩⟩
   rcases hstep y hy with h | rfl
   ·exact hokS y h
   ·exact (okS_else h9 h10 hxs.terms).2 ht
  have hpf := posF_at (vs := x.vs) hg h9
  have hpl := posF_lt (vs := x.vs) hg h9
  rw [← hkd] at hpf hpl
  refine ifd (fun hout => rPl (isF fun k => ?_)) (fun hin => ?_)
  ·obtain ⟨r', c', h', _⟩ := k.inv
   obtain rfl := node2 h'
   have := h'.pos
   omega
  have w_ := aSo (l := x.kids) (i := kd) (by omega)
  obtain ⟨y, hy⟩ := w_
  have w_ := Pf.elem (hks.mono (hle3.trans hle4)) hy
  obtain ⟨ady, py, hely, hry⟩ := w_
  refine eIn hely ?_
  refine cPl (ih y (mAt hy) (hp0.mono (hle3.trans hle4)) hry) fun v7 μ7 hle7 hR7 => ?_
  obtain rfl := hR7
  refine ifnd (fun h => rPl (isF fun k => ?_)) (fun hyok => ?_)
  ·obtain ⟨r', c', h', h2, _⟩ := k.inv
   exact h (h2 y (mAt hy))
  have hyok : OkP p y := hyok
  obtain ⟨ry, cy, hny, _, _⟩ := hyok.inv
  have hca := callFact_spec (μ := μ7) (vs := x.vs) (xs := xs) (vb := q.1.1) (vc := q.1.2) (by rw [hvtm, Pf.vs_len]; exact ((hvs.mono hle3).mono hle4).mono hle7) (hrg.mono hle7) hxs.terms hxs.len (fun y hy n hn => by have := hxs.low y hy n hn; omega)
  rw [Pf.vs_len] at hca
  have hpr := fun (μ8 : Mem) (h : μ7.Le μ8) => proofFact_spec (μ := μ8) (hp0.mono (((hle3.trans hle4).trans hle7).trans h)) hok ((hry.mono hle7).mono h) hny
  have fin : ∀ j z, j < kd + 1 → x.kids[j]? = some z → cmpF (headP p y) (callF x.vs g) = 0 → OkP p z ∧ (posF x.vs c)[j]? = some (headP p z) := fun j z hj hz2 hz => by
   rcases Nat.lt_or_ge j kd with h | h
   ·exact hkids j z h hz2
   ·obtain rfl : j = kd := by omega
    rw [hy] at hz2
    cases hz2
    exact ⟨hyok, by rw [hpf, (cmpF_ord.zero _ _).1 hz]⟩
  refine eIn hely ?_
  refine cPl (hpr _ (Mem.Le.refl _)) fun v8 μ8 hle8 hR8 => ?_
  obtain ⟨hR8, e8⟩ := hR8
  obtain rfl := e8.symm
  refine cPl hca fun v9 μ9 hle9 hR9 => ?_
  refine cGv (orderFacts_spec (hR8.mono hle9) hR9) ?_
  refine ifnd (fun h => rPl (isF fun k => ?_)) (fun hz => ?_)
  ·obtain ⟨r', c', h', _, h3⟩ := k.inv
   obtain rfl := node2 h'
   have := h3 kd y hy
   rw [hpf] at this
   have := Option.some.inj this
   exact h (cmpF_ord.zero _ _ |>.2 this.symm)
  refine num64 (by omega) (by omega) ?_
  refine num64 (by omega) (by omega) ⟨(m + 1, kd + 1, μ9), ⟨by dsimp only; omega, (hle4.trans hle7).trans hle9, by dsimp only; rw [posF_succ hg, if_pos h9, List.length_append, ← hkd]; rfl, by dsimp only; have := (List.getElem?_eq_some_iff.1 hy).1; omega, fun y hy => ?_, hno2, fun j z hj hz2 => fin j z hj hz2 hz⟩, by dsimp only; omega, ⟨⟨rfl, rfl, rfl, rfl, rfl, rfl, trivial⟩, ⟨rfl, rfl, trivial⟩, rfl, rfl⟩⟩
  rcases hstep y hy with h | rfl
  ·exact hokS y h
  ·exact fun h => absurd h9 h
theorem impl_ProofOk_spec {p : Pg} {x : Pf} {vp v : Value} (hp : RepV μ p.d vp) (hv : RepV μ x.d v) : Spec Tryz.prog 92 [vp, v] μ fun w _ => w = .bool (decide (p.Ok ∧ x.cnt ≤ 200 ∧ OkP p x)) := by
 have hp0 := hp
 have hv0 := hv
 have w_ := Pg.inv hp
 obtain ⟨q0, rfl, -⟩ := w_
 have w_ := Pf.invV hv
 obtain ⟨q, rfl⟩ := w_
 have hcp := x.cnt_pos
 refine Spec.mk Tryz.func92 (by kernel_rfl) ?_
 intro r2 r3
 refine cPl (impl_ProgramOk_spec hp0) fun v1 μ1 hle1 hR => ?_
 obtain rfl := hR
 refine ifd (fun hok => ?_) (fun h => rPl (isF fun k => h k.1))
 refine cPl (impl_ProofSize_spec (hv0.mono hle1)) fun v2 μ2 hle2 hR => ?_
 obtain ⟨rfl, e⟩ := hR
 obtain rfl := e.symm
 refine ifd (fun hsz => ?_) (fun h => rPl (isF fun k => h (by rw [Pf.size, if_pos k.2.1]; omega)))
 have hsz : x.size > 0 := hsz
 have hc : x.cnt ≤ 200 := Classical.byContradiction fun k => by rw [Pf.size, if_neg k] at hsz; exact absurd hsz (by decide)
 refine cPl (proofOk_spec hok x (hp0.mono hle1) (hv0.mono hle1)) fun v3 μ3 hle3 hR => ?_
 obtain rfl := hR
 exact rPl (congrArg Value.bool (decide_eq_decide.2 ⟨fun h => ⟨hok, hc, h⟩, fun h => h.2.2⟩))
theorem spec_ProofOk_spec {p : Pg} {x : Pf} {vp v : Value} (hp : RepV μ p.d vp) (hw : p.d.wd) (hv : RepV μ x.d v) (hwx : x.d.wd) : Spec Tryz.prog 89 [vp, v] μ fun w _ => w = .bool (decide (p.Ok ∧ x.cnt ≤ 200 ∧ OkP p x)) := by
 have hp0 := hp
 have hv0 := hv
 have w_ := Pg.inv hp
 obtain ⟨q0, rfl, -⟩ := w_
 have w_ := Pf.invV hv
 obtain ⟨q, rfl⟩ := w_
 have hcp := x.cnt_pos
 refine Spec.mk Tryz.func89 (by kernel_rfl) ?_
 intro r2 r3
 refine cPl (spec_ProgramOk_spec hp0 hw) fun v1 μ1 hle1 hR => ?_
 obtain rfl := hR
 refine ifd (fun hok => ?_) (fun h => rPl (isF fun k => h k.1))
 refine cGv (spec_ProofSize_spec (hv0.mono hle1)) ?_
 refine ifd (fun hsz => ?_) (fun h => rPl (isF fun k => h (by rw [Pf.size, if_pos k.2.1]; omega)))
 have hsz : x.size > 0 := hsz
 have hc : x.cnt ≤ 200 := Classical.byContradiction fun k => by rw [Pf.size, if_neg k] at hsz; exact absurd hsz (by decide)
 refine cPl (l20Ok_spec hw hok x (hp0.mono hle1) (hv0.mono hle1) hwx) fun v3 μ3 hle3 hR => ?_
 obtain rfl := hR
 exact rPl (congrArg Value.bool (decide_eq_decide.2 ⟨fun h => ⟨hok, hc, h⟩, fun h => h.2.2⟩))
end
end Go.Vx
namespace Go.Vx
open Go.Proofs Classical
section
variable {μ : Mem}
theorem OwnRows.app {es : Nat} {ds ds' : List D} {ys ys' : List Value} {g g' : Mem} (k : OwnRows es ds ys g) (k' : OwnRows es ds' ys' g') (ha : Apart g g') : OwnRows es (ds ++ ds') (ys ++ ys') (g.join g') :=
 ⟨by
  have := OwnS.append (Parts.join ha) k.own k'.own
  simpa using this, by
  intro x hx
  rcases List.mem_append.1 hx with h | h
  ·exact k.size x h
  ·exact k'.size x h, by simp [k.len, k'.len]⟩
structure Grown2 (e1 e2 : Nat) (μ μ' : Mem) (ds1 ds2 : List D) (ys1 ys2 : List Value) : Prop where
 out : ∃ g1 g2, OwnRows e1 ds1 ys1 g1 ∧ OwnRows e2 ds2 ys2 g2 ∧ Apart g1 g2 ∧ g1.Le μ' ∧ g2.Le μ' ∧ (∀ b, g1 b ≠ none → μ b = none) ∧ ∀ b, g2 b ≠ none → μ b = none
theorem Grown2.start {e1 e2 : Nat} {μ μ' : Mem} {ds : List D} {ys : List Value} (k : Grown e1 μ μ' ds ys) : Grown2 e1 e2 μ μ' ds [] ys [] := by
 obtain ⟨g, a, b, c⟩ := k
 exact ⟨g, Mem.nil, a, OwnRows.nil _, fun _ _ => rfl, b, (fun _ _ h => nomatch h), c, fun _ h => absurd rfl h⟩
theorem Grown2.mono {e1 e2 : Nat} {μ μ' μ'' : Mem} {ds1 ds2 : List D} {ys1 ys2 : List Value} (k : Grown2 e1 e2 μ μ' ds1 ds2 ys1 ys2) (h : μ'.Le μ'') : Grown2 e1 e2 μ μ'' ds1 ds2 ys1 ys2 := by
 obtain ⟨g1, g2, a, b, c, d, e, f⟩ := k.out
 exact ⟨g1, g2, a, b, c, d.trans h, e.trans h, f⟩
theorem Grown2.snoc {e1 e2 : Nat} {μ μ' μ'' : Mem} {ds1 ds2 : List D} {ys1 ys2 : List Value} {d : D} {v : Value} (k : Grown2 e1 e2 μ μ' ds1 ds2 ys1 ys2) (h0 : μ.Le μ') (hv : Fresh μ' μ'' d v) (h1 : μ'.Le μ'') (hn : d.n = e2) :
  Grown2 e1 e2 μ μ'' ds1 (ds2 ++ [d]) ys1 (ys2 ++ [v]) := by
 obtain ⟨g1, g2, a, b, c, d, e, f1, f2⟩ := k.out
 obtain ⟨g', a', b', c'⟩ := hv
 have p1 := fresh_apart d c'
 have p2 := fresh_apart e c'
 refine ⟨g1, g2.join g', a, b.snoc a' hn p2, fun x hx => join_empty (c x hx) (p1 x hx), d.trans h1, join_le (e.trans h1) b', f1, fun x hx => ?_⟩
 rcases join_ne hx with h | h
 ·exact f2 x h
 ·exact h0.none (c' x h)
theorem Grown2.app {e1 e2 : Nat} {μ μ' μ'' : Mem} {ds1 ds2 ds : List D} {ys1 ys2 ys : List Value} (k : Grown2 e1 e2 μ μ' ds1 ds2 ys1 ys2) (h0 : μ.Le μ') (hv : Grown e1 μ' μ'' ds ys) (h1 : μ'.Le μ'') :
  Grown2 e1 e2 μ μ'' (ds1 ++ ds) ds2 (ys1 ++ ys) ys2 := by
 obtain ⟨g1, g2, a, b, c, d, e, f1, f2⟩ := k.out
 obtain ⟨g', a', b', c'⟩ := hv
 have p1 := fresh_apart d c'
 have p2 := fresh_apart e c'
 refine ⟨g1.join g', g2, a.app a' p1, b, fun x hx => ?_, join_le (d.trans h1) b', e.trans h1, fun x hx => ?_, f2⟩
 ·rcases join_ne hx with h | h
  ·exact c x h
  ·cases e2 : g2 x with
   | none => rfl
   | some o => exact absurd (p2 x (by simp [e2])) h
 ·rcases join_ne hx with h | h
  ·exact f1 x h
  ·exact h0.none (c' x h)
theorem Grown2.fin {e1 e2 : Nat} {μ μ2 μ3 μ4 : Mem} {ds1 ds2 : List D} {ys1 ys2 : List Value} {b1 b2 : Option Nat} {cap1 cap2 : Nat} (k : Grown2 e1 e2 μ μ2 ds1 ds2 ys1 ys2) (h1 : μ.Le μ2) (h2 : μ2.Le μ3) (h3 : μ3.Le μ4)
  (hb2 : ∀ r, b2 = some r → μ2 r = none) (hr2 : RowAt μ3 b2 cap2 e2 ys2) (hm2 : ys2.length ≤ maxLen) (hb1 : ∀ r, b1 = some r → μ3 r = none) (hr1 : RowAt μ4 b1 cap1 e1 ys1) (hm1 : ys1.length ≤ maxLen) :
  FreshS μ μ4 [.sl e1 ds1, .sl e2 ds2] [.slice (b1.map fun r => ⟨r, 0, none⟩) ys1.length cap1, .slice (b2.map fun r => ⟨r, 0, none⟩) ys2.length cap2] := by
 obtain ⟨g1, g2, a1, a2, c, l1, l2, f1, f2⟩ := k.out
 have c' : ∀ x, g2 x ≠ none → g1 x = none := fun x hx => by
  cases e : g1 x with
  | none => rfl
  | some o => exact absurd (c x (by simp [e])) hx
 have F2 := Fresh.ofRow (μ := μ.join g1) (μ1 := μ2) (μ' := μ3) a2 l2 (fun x hx => join_empty (f2 x hx) (c' x hx)) (join_le h1 l1) h2 hb2 hr2 hm2
 obtain ⟨G2, A2, L2, N2⟩ := F2
 have F1 := Fresh.ofRow (μ := μ.join G2) (μ1 := μ3) (μ' := μ4) a1 (l1.trans h2) (fun x hx => join_empty (f1 x hx) (by
  cases e : G2 x with
  | none => rfl
  | some o => exact absurd (join_none (N2 x (by simp [e]))).2 hx)) (join_le (h1.trans h2) L2) h3 hb1 hr1 hm1
 obtain ⟨G1, A1, L1, N1⟩ := F1
 have ap : Apart G1 G2 := fun x hx => by
  cases e : G2 x with
  | none => rfl
  | some o => exact absurd (join_none (N1 x hx)).2 (by simp [e])
 refine ⟨G1.join G2, OwnS.cons (Parts.join ap) A1.cells (OwnS.last A2.cells), join_le L1 (L2.trans h3), fun x hx => ?_⟩
 rcases join_ne hx with h | h
 ·exact (join_none (N1 x h)).1
 ·exact (join_none (N2 x h)).1
theorem row_own {P : Program} {f : FuncId} {args : List Value} {Q : Mem → List Value → Prop} (hQ : ∀ μ1 μ2 us, μ1.Le μ2 → Q μ1 us → Q μ2 us)
  (h0 : Spec P f args μ fun v μ' => ∃ (r c : Nat) (us : List Value) (μ1 : Mem), v = .slice (some ⟨r, 0, none⟩) us.length c ∧ μ.Le μ1 ∧ μ1.Le μ' ∧ Q μ1 us ∧ μ1 r = none ∧ us.length ≤ 10000000 ∧ RowAt μ' (some r) c 4 us) :
  SpecH P f args μ Mem.nil fun v μ2 H2 => ∃ (r c : Nat) (ty : TypeId) (us : List Value), v = .slice (some ⟨r, 0, none⟩) us.length c ∧ RowO H2 r c ty 4 us ∧ Q μ2 us := by
 have e0 : μ.join Mem.nil = μ := funext fun b => by rw [Mem.join_get]; cases μ b <;> rfl
 generalize hR0 : (fun v μ' => ∃ (r c : Nat) (us : List Value) (μ1 : Mem), v = Value.slice (some ⟨r, 0, none⟩) us.length c ∧ μ.Le μ1 ∧ μ1.Le μ' ∧ Q μ1 us ∧ μ1 r = none ∧ us.length ≤ 10000000 ∧ RowAt μ' (some r) c 4 us) = R0 at h0
 have h : Spec P f args (μ.join Mem.nil) R0 := by rw [e0]; exact h0
 refine (Spec.lendOwn (H := Mem.nil) (R' := fun v g μ1 => ∃ (r c : Nat) (ty : TypeId) (us : List Value), v = .slice (some ⟨r, 0, none⟩) us.length c ∧ RowO g r c ty 4 us ∧ Q (μ1.sub g) us) (fun b _ => rfl) h fun v μ1 hle hR => ?_).weaken fun v μ2 H2 _ _ hR => ?_
 ·rw [e0]
  rw [← hR0] at hR
  obtain ⟨r, c, us, μ0, rfl, hl0, hl1, hgr, hr0, hn, hrow⟩ := hR
  obtain ⟨h2, h3, arr, ty, h4, h5, h6⟩ := hrow
  refine ⟨Mem.nil.set r (.cells arr ty (0, 0)), fun x o hx => ?_, fun x hx => ?_, r, c, ty, us, rfl, ⟨arr.toList, Mem.set_at _ _ _, h2, Nat.le_trans hn (by decide), h3, by simpa using h5, h6⟩, ?_⟩
  ·by_cases e : x = r
   ·subst e; rw [Mem.set_at] at hx; rw [h4]; exact hx
   ·rw [Mem.set_ne e] at hx; cases hx
  ·by_cases e : x = r
   ·subst e
    exact hl0.none hr0
   ·rw [Mem.set_ne e] at hx; exact absurd rfl hx
  ·refine hQ μ0 _ us (Mem.le_sub hl1 (fun b hb => ?_)) hgr
   by_cases e : b = r
   ·subst e
    exact absurd hr0 hb
   ·rw [Mem.set_ne e]; rfl
 ·obtain ⟨g, μ1, ⟨r, c, ty, us, rfl, ⟨cs, q1, q2⟩, hgr⟩, _, hp, rfl⟩ := hR
  exact ⟨r, c, ty, us, rfl, ⟨cs, hp.right _ _ q1, q2⟩, hgr⟩
theorem copyTerms_row {xs : List T} {base : Option Addr} {cap : Nat} (hsl : Sl μ 4 base xs.length ((xs.map T.tm).map Tm.d)) (hn : xs.length ≤ 1000000) :
  Spec Tryz.prog 95 [.slice base xs.length cap] μ fun v μ' => ∃ (r c : Nat) (us : List Value) (μ1 : Mem), v = .slice (some ⟨r, 0, none⟩) us.length c ∧ μ.Le μ1 ∧ μ1.Le μ' ∧ Grown 4 μ μ1 ((xs.map T.tm).map Tm.d) us ∧ μ1 r = none ∧ us.length ≤ 10000000 ∧ RowAt μ' (some r) c 4 us := by
 refine Spec.mk Tryz.func95 (by kernel_rfl) ?_
 intro r6
 refine lIn (fun p : Nat × Option Nat × Nat × List Value × Mem => p.1 ≤ xs.length ∧ μ.Le p.2.2.2.2 ∧ Grown 4 μ p.2.2.2.2 (((xs.take p.1).map T.tm).map Tm.d) p.2.2.2.1 ∧ p.2.1 ≠ none)
  (fun (i, b, c, ys, μ') => ⟨[(3, .row 0 b ys.length c), (7, .val (.slice base xs.length cap)), (8, .val (.int .i64 xs.length)), (9, .val (.int .i64 i))], [(0, some (.row b c 50 4 ys))], 1, μ', Mem.nil⟩) (fun p => xs.length - p.1)
  (0, some r6, 0, [], μ) ⟨Nat.zero_le _, Mem.Le.refl _, Grown.nil _ _ _, by simp⟩ (fun (_, _, _, _, _) => ⟨rfl, rfl⟩) ⟨⟨rfl, rfl, rfl, rfl, trivial⟩, ⟨rfl, trivial⟩, rfl, rfl⟩ ?_
 rintro ⟨i, b, c, ys, μ'⟩ ⟨hi, hle, hrows, hbn⟩
 dsimp only at hi hle hrows hbn
 have hlen := hrows.len
 simp only [List.length_map, List.length_take] at hlen
 refine ifd (fun hlt => ?_) (fun hlt => ?_)
 ·have w_ := aSo (l := xs) (i := i) (by omega)
  obtain ⟨x, hx⟩ := w_
  have w_ := T.elemL (hsl.mono hle) hx
  obtain ⟨ad, p, hel, hr⟩ := w_
  refine eIn hel ?_
  intro r5
  refine cPl (copyTerm_spec x hr) fun v1 μ1 hle1 hR => ?_
  have w_ := Tm.invV hR.rep
  obtain ⟨q, rfl⟩ := w_
  intro r16
  refine gIn ?_ ?_ fun b' c' hb' => ?_
  ·show (ys.length + 1) * 56 ≤ _; omega
  ·exact Nat.le_trans (m := 100000000) (show ys.length + 1 ≤ _ by omega) (by decide)
  refine num64 (by omega) (by omega) ⟨(i + 1, b', c', _, μ1), ⟨by dsimp only; omega, hle.trans hle1, ?_, fun e => by have := hb' e; simp at this⟩, by dsimp only; omega, ⟨⟨rfl, rfl, rfl, rfl, trivial⟩, ⟨rfl, trivial⟩, rfl, rfl⟩⟩
  dsimp only
  rw [List.take_add_one, hx, Option.toList_some]
  simp only [List.map_append, List.map_cons, List.map_nil]
  exact hrows.snoc hle hR hle1 (Tm.d_n _)
 ·obtain rfl : i = xs.length := by omega
  rw [List.take_length] at hrows
  cases b with
  | none => exact absurd rfl hbn
  | some r =>
  refine rFz [0] fun μ2 hle2 hno hrow => .inl ?_
  exact ⟨r, c, ys, μ', rfl, hle, hle2, hrows, hno r rfl, by omega, hrow⟩
theorem copyTerms_own {xs : List T} {base : Option Addr} {cap : Nat} (hsl : Sl μ 4 base xs.length ((xs.map T.tm).map Tm.d)) (hn : xs.length ≤ 1000000) :
  SpecH Tryz.prog 95 [.slice base xs.length cap] μ Mem.nil fun v μ2 H2 => ∃ (r c : Nat) (ty : TypeId) (us : List Value), v = .slice (some ⟨r, 0, none⟩) us.length c ∧ RowO H2 r c ty 4 us ∧ Grown 4 μ μ2 ((xs.map T.tm).map Tm.d) us :=
 row_own (fun _ _ _ h k => k.mono h) (copyTerms_row hsl hn)
theorem l02CopyAll_row {xs : List T} {base : Option Addr} {cap : Nat} (hsl : Sl μ 4 base xs.length ((xs.map T.tm).map Tm.d)) (hn : xs.length ≤ 1000000) :
  Spec Tryz.prog 110 [.slice base xs.length cap] μ fun v μ' => ∃ (r c : Nat) (us : List Value) (μ1 : Mem), v = .slice (some ⟨r, 0, none⟩) us.length c ∧ μ.Le μ1 ∧ μ1.Le μ' ∧ Rows μ1 4 ((xs.map T.tm).map Tm.d) us ∧ μ1 r = none ∧ us.length ≤ 10000000 ∧ RowAt μ' (some r) c 4 us := by
 refine Spec.mk Tryz.func110 (by kernel_rfl) ?_
 intro r6
 refine lIn (fun p : Nat × Option Nat × Nat × List Value × Mem => p.1 ≤ xs.length ∧ μ.Le p.2.2.2.2 ∧ Rows p.2.2.2.2 4 (((xs.take p.1).map T.tm).map Tm.d) p.2.2.2.1 ∧ p.2.1 ≠ none)
  (fun (i, b, c, ys, μ') => ⟨[(3, .row 0 b ys.length c), (7, .val (.slice base xs.length cap)), (8, .val (.int .i64 xs.length)), (9, .val (.int .i64 i))], [(0, some (.row b c 50 4 ys))], 1, μ', Mem.nil⟩) (fun p => xs.length - p.1)
  (0, some r6, 0, [], μ) ⟨by simp, Mem.Le.refl _, .nil, by simp⟩ (fun (_, _, _, _, _) => ⟨rfl, rfl⟩) ⟨⟨rfl, rfl, rfl, rfl, trivial⟩, ⟨rfl, trivial⟩, rfl, rfl⟩ ?_
 rintro ⟨i, b, c, ys, μ'⟩ ⟨hi, hle, hrows, hbn⟩
 dsimp only at hi hle hrows hbn
 have hlen := hrows.len
 simp only [List.length_map, List.length_take] at hlen
 refine ifd (fun h => ?_) (fun h => ?_)
 ·have w_ := aSo (l := xs) (i := i) (by omega)
  obtain ⟨x, hx'⟩ := w_
  have w_ := T.elemL (hsl.mono hle) hx'
  obtain ⟨ad, p, hel, hto⟩ := w_
  refine eIn hel ?_
  intro r
  refine cPl (l02Copy_spec _ hto) fun v4 μ4 hle4 hR4 => ?_
  have w_ := Tm.invV hR4
  obtain ⟨q, rfl⟩ := w_
  intro r5
  refine gIn ?_ ?_ fun b' c' hb' => ?_
  ·show (ys.length + 1) * 56 ≤ _; omega
  ·exact Nat.le_trans (m := 100000000) (show ys.length + 1 ≤ _ by omega) (by decide)
  refine num64 (by omega) (by omega) ⟨(i + 1, b', c', _, μ4), ⟨by dsimp only; omega, hle.trans hle4, ?_, fun e => by have := hb' e; simp at this⟩, by dsimp only; omega, ⟨⟨rfl, rfl, rfl, rfl, trivial⟩, ⟨rfl, trivial⟩, rfl, rfl⟩⟩
  dsimp only
  rw [List.take_add_one, hx', Option.toList_some]
  simp only [List.map_append, List.map_cons, List.map_nil]
  exact (hrows.mono hle4).append (Rows.one hR4 (Tm.d_n _))
 ·obtain rfl : i = xs.length := by omega
  rw [List.take_length] at hrows
  cases b with
  | none => exact absurd rfl hbn
  | some r =>
  refine rFz [0] fun μ2 hle2 hno hrow => .inl ?_
  exact ⟨r, c, ys, μ', rfl, hle, hle2, hrows, hno r rfl, by omega, hrow⟩
theorem l02CopyAll_own {xs : List T} {base : Option Addr} {cap : Nat} (hsl : Sl μ 4 base xs.length ((xs.map T.tm).map Tm.d)) (hn : xs.length ≤ 1000000) :
  SpecH Tryz.prog 110 [.slice base xs.length cap] μ Mem.nil fun v μ2 H2 => ∃ (r c : Nat) (ty : TypeId) (us : List Value), v = .slice (some ⟨r, 0, none⟩) us.length c ∧ RowO H2 r c ty 4 us ∧ Rows μ2 4 ((xs.map T.tm).map Tm.d) us :=
 row_own (fun _ _ _ h k => k.mono h) (l02CopyAll_row hsl hn)
end
end Go.Vx
namespace Go.Vx
open Go.Proofs Classical
theorem Pf.cnts_len : ∀ (xs : List Pf), xs.length ≤ Pf.cnts xs
 | [] => by simp
 | x :: xs => by
  have h1 := x.cnt_pos
  have h2 := Pf.cnts_len xs
  simp only [Pf.cnts, List.length_cons]; omega
theorem Pf.cnt_mem : ∀ {xs : List Pf} {y : Pf}, y ∈ xs → y.cnt ≤ Pf.cnts xs
 | x :: xs, y, h => by
  rcases List.mem_cons.1 h with rfl | h
  ·simp only [Pf.cnts]; omega
  ·have := Pf.cnt_mem h
   simp only [Pf.cnts]; omega
noncomputable def kidsT (f : Pf → Pf) (ca : Int) (xs : List Pf) (i : Nat) : List Pf := (List.range i).flatMap fun (j : Nat) => match xs[j]? with | none => [] | some y => if (j : Int) = ca then y.kids.map f else [f y]
theorem kidsT_succ {f : Pf → Pf} {ca : Int} {xs : List Pf} {i : Nat} {y : Pf} (h : xs[i]? = some y) : kidsT f ca xs (i + 1) = kidsT f ca xs i ++ if (i : Int) = ca then y.kids.map f else [f y] := by
 rw [kidsT, List.range_succ, List.flatMap_append]
 congr 1
 simp [h]
theorem kidsT_len {f : Pf → Pf} {ca : Int} {xs : List Pf} : ∀ i, (kidsT f ca xs i).length ≤ Pf.cnts (xs.take i)
 | 0 => by simp [kidsT]
 | i + 1 => by
  have ih := kidsT_len (f := f) (ca := ca) (xs := xs) i
  cases h : xs[i]? with
  | none =>
   have e : kidsT f ca xs (i + 1) = kidsT f ca xs i := by
    rw [kidsT, List.range_succ, List.flatMap_append]
    simp [h, kidsT]
   rw [e, List.take_add_one, h, Option.toList_none, List.append_nil]
   exact ih
  | some y =>
   rw [kidsT_succ h, Pf.cnts_take h, List.length_append]
   have h1 := y.cnt_pos
   have h2 := Pf.cnts_len y.kids
   have h3 := y.cnt_eq1
   split
   ·rw [List.length_map]; omega
   ·simp only [List.length_cons, List.length_nil]; omega
theorem kidsT_none {f : Pf → Pf} {xs : List Pf} : ∀ i, i ≤ xs.length → kidsT f (-1) xs i = (xs.take i).map f
 | 0, _ => by simp [kidsT]
 | i + 1, h => by
  have w_ := aSo (l := xs) (i := i) (by omega)
  obtain ⟨y, hy⟩ := w_
  rw [kidsT_succ hy, kidsT_none i (by omega), if_neg (by omega), List.take_add_one, hy, Option.toList_some, List.map_append]
  rfl
noncomputable def valsT (ca : Int) (xs : List Pf) (i : Nat) : List Tm := if 0 ≤ ca ∧ ca < i then (match xs[ca.toNat]? with | some y => y.values | none => []) else []
theorem valsT_zero (ca : Int) (xs : List Pf) : valsT ca xs 0 = [] := by rw [valsT, if_neg (by omega)]
theorem valsT_succ {ca : Int} {xs : List Pf} {i : Nat} {y : Pf} (h : xs[i]? = some y) : valsT ca xs (i + 1) = valsT ca xs i ++ if (i : Int) = ca then y.values else [] := by
 unfold valsT
 by_cases e : (i : Int) = ca
 ·subst e
  rw [if_pos (by omega), if_neg (by omega), if_pos rfl, Int.toNat_natCast, h]
  simp
 ·rw [if_neg e, List.append_nil]
  by_cases k : 0 ≤ ca ∧ ca < i
  ·rw [if_pos k, if_pos (by omega)]
  ·rw [if_neg k, if_neg (by omega)]
noncomputable def clauseT (cl ca : Int) (xs : List Pf) (b : Int) (i : Nat) : Int := if 0 ≤ ca ∧ ca < i then (match xs[ca.toNat]? with | some y => cl + y.clause | none => b) else b
theorem clauseT_zero (cl ca b : Int) (xs : List Pf) : clauseT cl ca xs b 0 = b := by rw [clauseT, if_neg (by omega)]
theorem clauseT_succ {cl ca b : Int} {xs : List Pf} {i : Nat} {y : Pf} (h : xs[i]? = some y) : clauseT cl ca xs b (i + 1) = if (i : Int) = ca then cl + y.clause else clauseT cl ca xs b i := by
 unfold clauseT
 by_cases e : (i : Int) = ca
 ·subst e
  rw [if_pos (by omega), if_pos rfl, Int.toNat_natCast, h]
 ·rw [if_neg e]
  by_cases k : 0 ≤ ca ∧ ca < i
  ·rw [if_pos k, if_pos (by omega)]
  ·rw [if_neg k, if_neg (by omega)]
inductive Pf.G : Pf → Prop
 | mk {x : Pf} (gnd : ∀ t ∈ x.values, GndT t) (len : x.values.length ≤ 1000) (cl0 : 0 ≤ x.clause) (cl1 : x.clause ≤ 1000) (sub : ∀ y ∈ x.kids, y.G) : x.G
theorem Pf.G.gnd {x : Pf} (h : x.G) : ∀ t ∈ x.values, GndT t := by cases h; assumption
theorem Pf.G.len {x : Pf} (h : x.G) : x.values.length ≤ 1000 := by cases h; assumption
theorem Pf.G.cl0 {x : Pf} (h : x.G) : 0 ≤ x.clause := by cases h; assumption
theorem Pf.G.cl1 {x : Pf} (h : x.G) : x.clause ≤ 1000 := by cases h; assumption
theorem Pf.G.sub {x : Pf} (h : x.G) : ∀ y ∈ x.kids, y.G := by cases h; assumption
theorem OkP.g {p : Pg} (hp : p.Ok) : ∀ x : Pf, OkP p x → x.G :=
 Pf.ind fun x ih h => by
  obtain ⟨r, c, h1, h2, _⟩ := h.inv
  obtain ⟨k, e1, e2⟩ := h1.rel
  have hro := hp.2 k r e2
  obtain ⟨L, i, f1, f2, f3⟩ := h1.cls
  have hb := (Gl.cl_bnd _ f1).2
  have hi := (List.getElem?_eq_some_iff.1 f3).1
  have h4 := h1.len
  have h5 := hro.ar4
  have h6 := hro.lo8
  exact .mk h1.gnd (by omega) (by omega) (by omega) fun y hy => ih y hy (h2 y hy)
section
variable (nm : ByteArray) (cl ca : Int) (count more : Nat)
noncomputable def hitC (x : Pf) : Int := if x.rel = nm ∧ x.clause = cl then ca else -1
noncomputable def turnB (f : Pf → Pf) (x : Pf) : Pf :=
 .mk x.rel (if x.rel = nm ∧ x.clause > cl then x.clause + count - 1 else clauseT cl (hitC nm cl ca x) x.kids x.clause x.kids.length)
  (x.values ++ valsT (hitC nm cl ca x) x.kids x.kids.length ++ if x.rel = nm ∧ x.clause ≠ cl then List.replicate more T.nil.tm else []) (kidsT f (hitC nm cl ca x) x.kids x.kids.length)
noncomputable def turnN : Nat → Pf → Pf
 | 0, x => x
 | n + 1, x => turnB nm cl ca count more (turnN n) x
end
end Go.Vx
namespace Go.Vx
open Go.Proofs Classical
theorem GndT.lifts {ts : List Tm} (h : ∀ t ∈ ts, GndT t) : ∃ xs : List T, ts = xs.map T.tm ∧ xs.length = ts.length := by
 have w_ := lift_ok fun t ht => (h t ht).1
 obtain ⟨xs, e, _⟩ := w_
 exact ⟨xs, e, by rw [e, List.length_map]⟩
section
variable {μ : Mem}
theorem pf_fin {μ1 μ2 h : Mem} {rel : ByteArray} {clz : Int} {vals : List Tm} {ks : List Pf} {b : Option Nat} {cp r c : Nat} {ty : TypeId} {us ys : List Value} (hle : μ1.Le μ2) (hap : Apart μ2 h) (hr : RowO h r c ty 4 us) (hrows : Rows μ1 4 (vals.map Tm.d) us) (hk : RowAt μ2 b cp 4 ys) (hks : Rows μ1 4 (ks.map Pf.d) ys) (hm : ys.length ≤ maxLen) :
  RepV (μ2.join h) (Pf.mk rel clz vals ks).d (.agg #[.string rel, .int .i64 clz, .slice (some ⟨r, 0, none⟩) us.length c, .slice (b.map fun r => ⟨r, 0, none⟩) ys.length cp]) := by
 rw [Pf.d_eq]
 have k1 := Rows.sl (b := some r) (hr.rowAt (Mem.le_join_right hap)) (hrows.mono (hle.trans (Mem.le_join _ _))) hr.len
 have k2 := Rows.sl (RowAt.up hk (Mem.le_join μ2 h)) (hks.mono (hle.trans (Mem.le_join _ _))) hm
 exact ⟨_, rfl, RepS.str (RepS.int (RepS.cons1 k1 (RepS.last k2)))⟩
theorem nil_rows : ∀ m : Nat, Rows μ 4 ((List.replicate m T.nil.tm).map Tm.d) (List.replicate m (.agg #[.int .i64 0, .int .i64 0, .string ⟨#[]⟩, .slice none 0 0]))
 | 0 => .nil
 | m + 1 => by
  rw [List.replicate_succ', List.replicate_succ', List.map_append]
  refine (nil_rows m).append (Rows.one ?_ (Tm.d_n _))
  exact ⟨_, rfl, RepS.int (RepS.int (RepS.str (RepS.last (Rep.nilSl 4))))⟩
set_option maxHeartbeats 4000000 in
set_option maxRecDepth 20000 in
theorem l33Proof_spec {nm : ByteArray} {cl ca : Int} {count more : Nat} (hcl : 0 ≤ cl ∧ cl ≤ 1000) (hcount : count ≤ 1000) (hmore : more ≤ 1000) : ∀ (n : Nat) (x : Pf) {μ : Mem} {v : Value}, x.cnt ≤ n → n ≤ 1000 → x.G → RepV μ x.d v →
  Spec Tryz.prog 90 [v, .string nm, .int .i64 cl, .int .i64 ca, .int .i64 count, .int .i64 more] μ fun w μ' => RepV μ' (turnN nm cl ca count more n x).d w
 | 0, x, μ, v, hc, _, _, _ => absurd x.cnt_pos (by omega)
 | n + 1, x, μ, v, hc, hn, hG, hv => by
  have ih : ∀ (y : Pf) {μ : Mem} {v : Value}, y.cnt ≤ n → y.G → RepV μ y.d v → Spec Tryz.prog 90 [v, .string nm, .int .i64 cl, .int .i64 ca, .int .i64 count, .int .i64 more] μ fun w μ' => RepV μ' (turnN nm cl ca count more n y).d w := fun y _ _ h1 h2 h3 => l33Proof_spec hcl hcount hmore n y h1 (by omega) h2 h3
  show Spec _ _ _ _ fun w μ' => RepV μ' (turnB nm cl ca count more (turnN nm cl ca count more n) x).d w
  generalize turnN nm cl ca count more n = F at ih ⊢
  have hit : x.rel = nm ∧ x.clause = cl → hitC nm cl ca x = ca := fun k => if_pos k
  have miss : ¬ (x.rel = nm ∧ x.clause = cl) → hitC nm cl ca x = -1 := fun k => if_neg k
  unfold turnB
  generalize hitC nm cl ca x = A at hit miss ⊢
  have hce := x.cnt_eq1
  have hg1 := hG.cl0
  have hg2 := hG.cl1
  have hg3 := hG.len
  have hv0 := hv
  have w_ := Pf.inv hv
  obtain ⟨q, rfl, hvs, hks⟩ := w_
  have hkl := Pf.cnts_len x.kids
  have w_ := GndT.lifts hG.gnd
  obtain ⟨xs, hxs, hxl⟩ := w_
  have hcopy := l02CopyAll_own (cap := q.1.2) (xs := xs) (by rw [← hxs, hxl]; exact hvs) (by omega)
  rw [hxl, ← hxs] at hcopy
  refine Spec.mk Tryz.func90 (by kernel_rfl) ?_
  intro r6 r12
  refine cOw hcopy fun v1 μ1 h1 hle1 hap1 hR1 => ?_
  obtain ⟨r0, c0, ty0, us0, rfl, hrow0, hvals0⟩ := hR1
  intro r13
  refine loop_nil (fun z : Nat × (Option Nat × Nat × List Value) × (Nat × Nat × TypeId × List Value) × Mem × Mem => z.1 ≤ x.kids.length ∧ μ.Le z.2.2.2.1 ∧ Apart z.2.2.2.1 z.2.2.2.2 ∧ RowO z.2.2.2.2 z.2.2.1.1 z.2.2.1.2.1 z.2.2.1.2.2.1 4 z.2.2.1.2.2.2 ∧ Rows z.2.2.2.1 4 ((x.values ++ valsT A x.kids z.1).map Tm.d) z.2.2.1.2.2.2 ∧ Rows z.2.2.2.1 4 ((kidsT F A x.kids z.1).map Pf.d) z.2.1.2.2)
   (fun (i, (b, cp, ys), (r, c, ty, us), μ', h) => ⟨[(1, .val (.string nm)), (2, .val (.int .i64 cl)), (3, .val (.int .i64 ca)), (4, .val (.int .i64 count)), (5, .val (.int .i64 more)), (6, .loc 0 r6 0), (12, .loc 1 r12 0), (13, .loc 2 r13 0), (27, .val (.slice q.2.1 x.kids.length q.2.2)), (28, .val (.int .i64 x.kids.length)), (29, .val (.int .i64 i))],
    [(0, some (.cells r6 [.val (.string x.rel), .val (.int .i64 x.clause), .val (.slice q.1.1 x.values.length q.1.2), .val (.slice q.2.1 x.kids.length q.2.2)] 67)), (1, some (.cells r12 [.val (.string ⟨#[]⟩), .val (.int .i64 0), .val (.slice none 0 0), .val (.slice none 0 0)] 67)), (2, some (.cells r13 [.val (.string x.rel), .val (.int .i64 (clauseT cl A x.kids x.clause i)), .val (.slice (some ⟨r, 0, none⟩) us.length c), .row 3 b ys.length cp] 67)), (3, some (.row b cp 67 4 ys))], 4, μ', h⟩) (fun z => x.kids.length - z.1)
   (0, (none, 0, []), (r0, c0, ty0, us0), μ1, h1) ⟨Nat.zero_le _, hle1, hap1, hrow0, by dsimp only; rw [valsT_zero, List.append_nil]; exact hvals0, .nil⟩ (fun (_, (_, _, _), (_, _, _, _), _, _) => ⟨rfl, rfl⟩) ?_ ?_
  ·exact ⟨⟨⟨_, rfl, .inl rfl⟩, ⟨_, rfl, .inl rfl⟩, ⟨_, rfl, .inl rfl⟩, ⟨_, rfl, .inl rfl⟩, ⟨_, rfl, .inl rfl⟩, ⟨_, rfl, .inl rfl⟩, ⟨_, rfl, .inl rfl⟩, ⟨_, rfl, .inl rfl⟩, ⟨_, rfl, .inl rfl⟩, ⟨_, rfl, .inl rfl⟩, ⟨_, rfl, .inl rfl⟩, trivial⟩, ⟨.inl rfl, .inl rfl, .inr (.inr ⟨_, _, _, _, rfl, rfl, .inl rfl, .inl (by rw [clauseT_zero]), .inl rfl, .inr ⟨3, rfl, rfl, Nat.le_refl _⟩, trivial⟩), .inr (.inl ⟨_, _, rfl, Nat.le_refl _⟩), trivial⟩, rfl, rfl⟩
  rintro ⟨i, ⟨b, cp, ys⟩, ⟨r, c, ty, us⟩, μ', h⟩ ⟨hi, hle, hap, hrow, hvals, hkids⟩
  dsimp only at hi hle hap hrow hvals hkids
  have hyl := hkids.len
  rw [List.length_map] at hyl
  have hyb := kidsT_len (f := F) (ca := A) (xs := x.kids) i
  have hyb2 := Pf.cnts_le x.kids i
  have hul := hvals.len
  rw [List.length_map, List.length_append] at hul
  refine ifd (fun hlt => ?_) (fun hlt => ?_)
  ·have w_ := aSo (l := x.kids) (i := i) (by omega)
   obtain ⟨y, hy⟩ := w_
   have hym := Pf.cnt_mem (mAt hy)
   have w_ := Pf.elem (hks.mono hle) hy
   obtain ⟨ady, py, hely, hry⟩ := w_
   refine eIn hely ?_
   intro r15
   refine ifd (fun e1 => ?_) (fun e1 => ?_)
   ·refine ifd (fun e2 => ?_) (fun e2 => ?_)
    ·refine ifd (fun e3 => ?_) (fun e3 => ?_)
     ·have hA : A = ca := hit ⟨e1, e2⟩
      have hGy := hG.sub y (mAt hy)
      have hy1 := hGy.cl0
      have hy2 := hGy.cl1
      have hy3 := hGy.len
      have hvl : (valsT A x.kids i).length = 0 := by
       rw [valsT, if_neg (by omega)]; rfl
      refine num64 (by omega) (by omega) ?_
      have w_ := Pf.inv hry
      obtain ⟨qy, ey, hvy, hky⟩ := w_
      have eqy : py = qy := by
       have e := congrArg (fun v => match v with | Value.agg a => a.toList | _ => []) ey
       simp only [Pf.cs, List.cons.injEq, Value.slice.injEq] at e
       obtain ⟨-, -, ⟨a1, -, a2⟩, ⟨a3, -, a4⟩, -⟩ := e
       exact Prod.ext (Prod.ext a1 a2) (Prod.ext a3 a4)
      subst eqy
      have w_ := GndT.lifts hGy.gnd
      obtain ⟨zs, hzs, hzl⟩ := w_
      have hcopy2 := l02CopyAll_spec (μ := μ') (cap := py.1.2) (xs := zs) (by rw [← hzs, hzl]; exact hvy) (by omega)
      rw [hzl, ← hzs] at hcopy2
      refine cDa hap hcopy2 fun v5 μ5 hle5 hap5 hR5 => ?_
      have w_ := Rep.sl hR5
      obtain ⟨b5, c5, rfl, _⟩ := w_
      have w_ := Rep.srcAll hR5
      obtain ⟨us5, hvals5, hl5, hsrc5⟩ := w_
      rw [List.length_map] at hl5
      refine src_intro us5 hsrc5 ?_
      refine app_introT us ty rfl hrow ?_ ?_ fun r9 c9 o ty9 hrow9 hor => ?_
      ·show (us.length + us5.length) * 56 ≤ _; omega
      ·exact Nat.le_trans (m := 100000000) (show us.length + us5.length ≤ _ by omega) (by decide)
      have hap9 := hap5.set (o := o) (apartB hrow hap5 hor)
      generalize h.set r9 o = h9 at hrow9 hap9
      have hkyn := Pf.cnts_len y.kids
      have hyce := y.cnt_eq1
      refine lIn (fun z : Nat × (Option Nat × Nat × List Value) × Mem => z.1 ≤ y.kids.length ∧ μ5.Le z.2.2 ∧ Apart z.2.2 h9 ∧ Rows z.2.2 4 ((kidsT F A x.kids i ++ (y.kids.take z.1).map F).map Pf.d) z.2.1.2.2)
       (fun (j, (b, cp, ys), μ') => ⟨[(1, .val (.string nm)), (2, .val (.int .i64 cl)), (3, .val (.int .i64 ca)), (4, .val (.int .i64 count)), (5, .val (.int .i64 more)), (6, .loc 0 r6 0), (12, .loc 1 r12 0), (13, .loc 2 r13 0), (27, .val (.slice q.2.1 x.kids.length q.2.2)), (28, .val (.int .i64 x.kids.length)), (29, .val (.int .i64 i)), (62, .val (.slice py.2.1 y.kids.length py.2.2)), (63, .val (.int .i64 y.kids.length)), (64, .val (.int .i64 j))],
        [(0, some (.cells r6 [.val (.string x.rel), .val (.int .i64 x.clause), .val (.slice q.1.1 x.values.length q.1.2), .val (.slice q.2.1 x.kids.length q.2.2)] 67)), (1, some (.cells r12 [.val (.string ⟨#[]⟩), .val (.int .i64 0), .val (.slice none 0 0), .val (.slice none 0 0)] 67)), (2, some (.cells r13 [.val (.string x.rel), .val (.int .i64 (cl + y.clause)), .val (.slice (some ⟨r9, 0, none⟩) (us.length + us5.length) c9), .row 3 b ys.length cp] 67)), (3, some (.row b cp 67 4 ys))], 5, μ', h9⟩) (fun z => y.kids.length - z.1)
       (0, (b, cp, ys), μ5) ⟨Nat.zero_le _, Mem.Le.refl _, hap9, by simpa using hkids.mono hle5⟩ (fun (_, (_, _, _), _) => ⟨rfl, rfl⟩) ⟨⟨rfl, rfl, rfl, rfl, rfl, rfl, rfl, rfl, rfl, rfl, rfl, rfl, rfl, rfl, trivial⟩, ⟨rfl, rfl, rfl, rfl, trivial⟩, rfl, rfl⟩ ?_
      rintro ⟨j, ⟨b2, cp2, ys2⟩, μ6⟩ ⟨hj, hle6, hap6, hkids2⟩
      dsimp only at hj hle6 hap6 hkids2
      have hyl2 := hkids2.len
      rw [List.length_map, List.length_append, List.length_map, List.length_take] at hyl2
      refine ifd (fun hlt2 => ?_) (fun hlt2 => ?_)
      ·have w_ := aSo (l := y.kids) (i := j) (by omega)
       obtain ⟨z, hz⟩ := w_
       have hzm := Pf.cnt_mem (mAt hz)
       have w_ := Pf.elem (hky.mono (hle5.trans hle6)) hz
       obtain ⟨adz, pz, helz, hrz⟩ := w_
       refine eIn helz ?_
       intro r17
       refine cDa hap6 (ih z (by omega) (hGy.sub z (mAt hz)) hrz) fun v7 μ7 hle7 hap7 hR7 => ?_
       have w_ := Pf.invV hR7
       obtain ⟨q7, rfl⟩ := w_
       intro r90
       refine gIn ?_ ?_ fun b' cp' _ => ?_
       ·show (ys2.length + 1) * 72 ≤ _; omega
       ·exact Nat.le_trans (m := 100000000) (show ys2.length + 1 ≤ _ by omega) (by decide)
       refine num64 (by omega) (by omega) ⟨(j + 1, (b', cp', _), μ7), ⟨by dsimp only; omega, hle6.trans hle7, hap7, ?_⟩, by dsimp only; omega, ⟨⟨rfl, rfl, rfl, rfl, rfl, rfl, rfl, rfl, rfl, rfl, rfl, rfl, rfl, rfl, trivial⟩, ⟨rfl, rfl, rfl, rfl, trivial⟩, rfl, rfl⟩⟩
       dsimp only
       rw [show (kidsT F A x.kids i ++ (y.kids.take (j + 1)).map F).map Pf.d = (kidsT F A x.kids i ++ (y.kids.take j).map F).map Pf.d ++ [(F z).d] from by rw [List.take_add_one, hz]; simp]
       exact (hkids2.mono hle7).append (Rows.one hR7 (Pf.d_n _))
      obtain rfl : j = y.kids.length := by omega
      rw [List.take_length] at hkids2
      refine num64 (by omega) (by omega) ⟨(i + 1, (b2, cp2, ys2), (r9, c9, ty9, us ++ us5), μ6, h9), ⟨by dsimp only; omega, hle.trans (hle5.trans hle6), hap6, hrow9, ?_, ?_⟩, by dsimp only; omega, ⟨⟨rfl, rfl, rfl, rfl, rfl, rfl, rfl, rfl, rfl, rfl, rfl, trivial⟩, ⟨rfl, rfl, ?_, rfl, trivial⟩, rfl, rfl⟩⟩
      ·dsimp only
       rw [valsT_succ hy, if_pos (by omega), ← List.append_assoc, List.map_append (l₁ := x.values ++ _)]
       exact (hvals.mono (hle5.trans hle6)).append (hvals5.mono hle6)
      ·dsimp only
       rw [kidsT_succ hy, if_pos (by omega)]
       exact hkids2
      ·rw [clauseT_succ hy, if_pos (by omega), List.length_append]
       rfl
     ·refine cDa hap (ih y (by omega) (hG.sub y (mAt hy)) hry) fun v5 μ5 hle5 hap5 hR5 => ?_
      have w_ := Pf.invV hR5
      obtain ⟨q5, rfl⟩ := w_
      intro r90
      refine gIn ?_ ?_ fun b' cp' _ => ?_
      ·show (ys.length + 1) * 72 ≤ _; omega
      ·exact Nat.le_trans (m := 100000000) (show ys.length + 1 ≤ _ by omega) (by decide)
      have hno : ¬ (i : Int) = A := fun e => e3 (e.trans (hit ⟨e1, e2⟩))
      refine num64 (by omega) (by omega) ⟨(i + 1, (b', cp', _), (r, c, ty, us), μ5, h), ⟨by dsimp only; omega, hle.trans hle5, hap5, hrow, ?_, ?_⟩, by dsimp only; omega, ⟨⟨rfl, rfl, rfl, rfl, rfl, rfl, rfl, rfl, rfl, rfl, rfl, trivial⟩, ⟨rfl, rfl, ?_, rfl, trivial⟩, rfl, rfl⟩⟩
      ·dsimp only
       rw [valsT_succ hy, if_neg hno, List.append_nil]
       exact hvals.mono hle5
      ·dsimp only
       rw [kidsT_succ hy, if_neg hno, List.map_append]
       exact (hkids.mono hle5).append (Rows.one hR5 (Pf.d_n _))
      ·rw [clauseT_succ hy, if_neg hno]
       rfl
    ·refine cDa hap (ih y (by omega) (hG.sub y (mAt hy)) hry) fun v5 μ5 hle5 hap5 hR5 => ?_
     have w_ := Pf.invV hR5
     obtain ⟨q5, rfl⟩ := w_
     intro r90
     refine gIn ?_ ?_ fun b' cp' _ => ?_
     ·show (ys.length + 1) * 72 ≤ _; omega
     ·exact Nat.le_trans (m := 100000000) (show ys.length + 1 ≤ _ by omega) (by decide)
     have hno : ¬ (i : Int) = A := fun e => by have := miss fun k => e2 k.2; omega
     refine num64 (by omega) (by omega) ⟨(i + 1, (b', cp', _), (r, c, ty, us), μ5, h), ⟨by dsimp only; omega, hle.trans hle5, hap5, hrow, ?_, ?_⟩, by dsimp only; omega, ⟨⟨rfl, rfl, rfl, rfl, rfl, rfl, rfl, rfl, rfl, rfl, rfl, trivial⟩, ⟨rfl, rfl, ?_, rfl, trivial⟩, rfl, rfl⟩⟩
     ·dsimp only
      rw [valsT_succ hy, if_neg hno, List.append_nil]
      exact hvals.mono hle5
     ·dsimp only
      rw [kidsT_succ hy, if_neg hno, List.map_append]
      exact (hkids.mono hle5).append (Rows.one hR5 (Pf.d_n _))
     ·rw [clauseT_succ hy, if_neg hno]
      rfl
   ·refine cDa hap (ih y (by omega) (hG.sub y (mAt hy)) hry) fun v5 μ5 hle5 hap5 hR5 => ?_
    have w_ := Pf.invV hR5
    obtain ⟨q5, rfl⟩ := w_
    intro r90
    refine gIn ?_ ?_ fun b' cp' _ => ?_
    ·show (ys.length + 1) * 72 ≤ _; omega
    ·exact Nat.le_trans (m := 100000000) (show ys.length + 1 ≤ _ by omega) (by decide)
    have hno : ¬ (i : Int) = A := fun e => by have := miss fun k => e1 k.1; omega
    refine num64 (by omega) (by omega) ⟨(i + 1, (b', cp', _), (r, c, ty, us), μ5, h), ⟨by dsimp only; omega, hle.trans hle5, hap5, hrow, ?_, ?_⟩, by dsimp only; omega, ⟨⟨rfl, rfl, rfl, rfl, rfl, rfl, rfl, rfl, rfl, rfl, rfl, trivial⟩, ⟨rfl, rfl, ?_, rfl, trivial⟩, rfl, rfl⟩⟩
    ·dsimp only
     rw [valsT_succ hy, if_neg hno, List.append_nil]
     exact hvals.mono hle5
    ·dsimp only
     rw [kidsT_succ hy, if_neg hno, List.map_append]
     exact (hkids.mono hle5).append (Rows.one hR5 (Pf.d_n _))
    ·rw [clauseT_succ hy, if_neg hno]
     rfl
  obtain rfl : i = x.kids.length := by omega
  have hvl : (valsT A x.kids x.kids.length).length ≤ 1000 := by
   unfold valsT
   split
   ·rename_i k
    cases e : x.kids[A.toNat]? with
    | none => exact Nat.zero_le _
    | some y => exact (hG.sub y (mAt e)).len
   ·exact Nat.zero_le _
  have hmx : ys.length ≤ maxLen := Nat.le_trans (m := 100000000) (by omega) (by decide)
  by_cases e1 : x.rel = nm
  ·by_cases e2 : x.clause = cl
   ·refine ifd (fun _ => ?_) (fun k => absurd e1 k)
    refine ifnd (fun k => absurd e2 k) (fun _ => ?_)
    refine ifd (fun _ => ?_) (fun k => absurd e1 k)
    refine ifd (fun k => by omega) (fun _ => ?_)
    refine ret_frzA [3] fun μ2 hle2 hno2 hat2 hap2 => .inr ⟨h, Mem.nil, Parts.nil_right _, ?_⟩
    rw [if_neg fun k => by omega, if_neg fun k => k.2 e2, List.append_nil]
    exact pf_fin hle2 hap2 hrow hvals hat2 hkids hmx
   ·have hA := miss fun k => e2 k.2
    have hcT : clauseT cl A x.kids x.clause x.kids.length = x.clause := by rw [clauseT, if_neg (by omega)]
    rw [hcT]
    refine ifd (fun _ => ?_) (fun k => absurd e1 k)
    refine ifnd (fun _ => ?_) (fun k => absurd k e2)
    refine zeros_intro more rfl ?_
    refine app_introT us ty rfl hrow ?_ ?_ fun r9 c9 o ty9 hrow9 hor => ?_
    ·rw [List.length_replicate]; show (us.length + more) * 56 ≤ _; omega
    ·rw [List.length_replicate]; exact Nat.le_trans (m := 100000000) (show us.length + more ≤ _ by omega) (by decide)
    have hvals9 := hvals.append (nil_rows more)
    rw [← List.map_append] at hvals9
    refine ifd (fun _ => ?_) (fun k => absurd e1 k)
    refine ifd (fun k => ?_) (fun k => ?_)
    ·refine num64 (by omega) (by omega) ?_
     refine num64 (by omega) (by omega) ?_
     refine ret_frzA [3] fun μ2 hle2 hno2 hat2 hap2 => .inr ⟨_, Mem.nil, Parts.nil_right _, ?_⟩
     rw [if_pos ⟨e1, k⟩, if_pos ⟨e1, e2⟩]
     have kf := pf_fin (rel := x.rel) (clz := x.clause + count - 1) hle2 hap2 hrow9 hvals9 hat2 hkids hmx
     rw [List.length_append] at kf
     exact kf
    ·refine ret_frzA [3] fun μ2 hle2 hno2 hat2 hap2 => .inr ⟨_, Mem.nil, Parts.nil_right _, ?_⟩
     rw [if_neg fun k2 => k k2.2, if_pos ⟨e1, e2⟩]
     have kf := pf_fin (rel := x.rel) (clz := x.clause) hle2 hap2 hrow9 hvals9 hat2 hkids hmx
     rw [List.length_append] at kf
     exact kf
  ·refine ifd (fun k => absurd k e1) (fun _ => ?_)
   refine ifd (fun k => absurd k e1) (fun _ => ?_)
   refine ret_frzA [3] fun μ2 hle2 hno2 hat2 hap2 => .inr ⟨h, Mem.nil, Parts.nil_right _, ?_⟩
   rw [if_neg fun k => e1 k.1, if_neg fun k => e1 k.1, List.append_nil]
   exact pf_fin hle2 hap2 hrow hvals hat2 hkids hmx
end
end Go.Vx
namespace Go.Vx
open Go.Proofs Classical
theorem nil_own : ∀ m : Nat, OwnRows 4 ((List.replicate m T.nil.tm).map Tm.d) (List.replicate m (.agg #[.int .i64 0, .int .i64 0, .string ⟨#[]⟩, .slice none 0 0])) Mem.nil
 | 0 => OwnRows.nil 4
 | m + 1 => by
  rw [List.replicate_succ', List.replicate_succ', List.map_append]
  have k := (nil_own m).snoc (d := T.nil.tm.d) (g' := Mem.nil) (v := .agg #[.int .i64 0, .int .i64 0, .string ⟨#[]⟩, .slice none 0 0]) (by
   have hf : FreshS Mem.nil Mem.nil [.i 0, .i 0, .s ⟨#[]⟩, .sl 4 []] [.int .i64 0, .int .i64 0, .string ⟨#[]⟩, .slice none 0 0] := FreshS.int (FreshS.int (FreshS.str ⟨Mem.nil, OwnS.last (Own.nilSl 4), (fun _ _ h => nomatch h), fun _ h => absurd rfl h⟩))
   have w_ := FreshS.st hf
   obtain ⟨g, a, b, c⟩ := w_
   have e : g = Mem.nil := funext fun z => by
    cases h : g z with
    | none => rfl
    | some o => have := b z o h; cases this
   rw [e] at a
   exact a) (Tm.d_n _) (fun _ _ => rfl)
  rw [Mem.nil_join] at k
  exact k
theorem nil_grown {μ μ' : Mem} (m : Nat) : Grown 4 μ μ' ((List.replicate m T.nil.tm).map Tm.d) (List.replicate m (.agg #[.int .i64 0, .int .i64 0, .string ⟨#[]⟩, .slice none 0 0])) := ⟨Mem.nil, nil_own m, (fun _ _ h => nomatch h), fun _ h => absurd rfl h⟩
abbrev turnF : FuncId := 94
structure TurnC (μ : Mem) (nm : ByteArray) (cl ca : Int) (count more : Nat) (rn rf rc rk rm ra : Nat) : Prop where
 n : μ rn = some (.cells #[.string nm] 9 (0, 0))
 f : μ rf = some (.cells #[.func (.func 94) #[] #[.pointer (some ⟨rn, 0, none⟩), .pointer (some ⟨rf, 0, none⟩), .pointer (some ⟨rc, 0, none⟩), .pointer (some ⟨rk, 0, none⟩), .pointer (some ⟨rm, 0, none⟩), .pointer (some ⟨ra, 0, none⟩)]] 125 (0, 0))
 c : μ rc = some (.cells #[.int .i64 cl] 3 (0, 0))
 k : μ rk = some (.cells #[.int .i64 count] 3 (0, 0))
 m : μ rm = some (.cells #[.int .i64 more] 3 (0, 0))
 a : μ ra = some (.cells #[.int .i64 ca] 3 (0, 0))
theorem TurnC.mono {μ μ' : Mem} {nm : ByteArray} {cl ca : Int} {count more rn rf rc rk rm ra : Nat} (h : TurnC μ nm cl ca count more rn rf rc rk rm ra) (hl : μ.Le μ') : TurnC μ' nm cl ca count more rn rf rc rk rm ra :=
 ⟨hl _ _ h.n, hl _ _ h.f, hl _ _ h.c, hl _ _ h.k, hl _ _ h.m, hl _ _ h.a⟩
section
variable {μ : Mem}
theorem pf_finF {μ1 μ2 h : Mem} {rel : ByteArray} {clz : Int} {vals : List Tm} {ks : List Pf} {b : Option Nat} {cp r c : Nat} {ty : TypeId} {us ys : List Value} (h0 : μ.Le μ1) (hle : μ1.Le μ2) (hap : Apart μ2 h) (hr : RowO h r c ty 4 us) (hg : Grown2 4 4 μ μ1 (vals.map Tm.d) (ks.map Pf.d) us ys) (hno : ∀ r, b = some r → μ1 r = none) (hk : RowAt μ2 b cp 4 ys) (hm : ys.length ≤ maxLen) :
  Fresh μ (μ2.join h) (Pf.mk rel clz vals ks).d (.agg #[.string rel, .int .i64 clz, .slice (some ⟨r, 0, none⟩) us.length c, .slice (b.map fun r => ⟨r, 0, none⟩) ys.length cp]) := by
 rw [Pf.d_eq]
 have hrn : μ2 r = none := hap.symm r (by
  obtain ⟨cs, hc, _⟩ := hr
  rw [hc]; simp)
 exact FreshS.st (FreshS.str (FreshS.int (hg.fin (b1 := some r) h0 hle (Mem.le_join μ2 h) hno hk hm (fun r0 e => by cases e; exact hrn) (hr.rowAt (Mem.le_join_right hap)) hr.len)))
set_option maxHeartbeats 8000000 in
set_option maxRecDepth 20000 in
theorem turn_spec {nm : ByteArray} {cl ca : Int} {count more rn rf rc rk rm ra : Nat} (hcl : 0 ≤ cl ∧ cl ≤ 1000) (hcount : count ≤ 1000) (hmore : more ≤ 1000) (hca0 : 0 ≤ ca) : ∀ (n : Nat) (x : Pf) {μ : Mem} {v : Value}, x.cnt ≤ n → n ≤ 1000 → x.G → TurnC μ nm cl ca count more rn rf rc rk rm ra → RepV μ x.d v →
  Spec Tryz.prog 94 [v, .pointer (some ⟨rn, 0, none⟩), .pointer (some ⟨rf, 0, none⟩), .pointer (some ⟨rc, 0, none⟩), .pointer (some ⟨rk, 0, none⟩), .pointer (some ⟨rm, 0, none⟩), .pointer (some ⟨ra, 0, none⟩)] μ fun w μ' => Fresh μ μ' (turnN nm cl ca count more n x).d w
 | 0, x, μ, v, hc, _, _, _, _ => absurd x.cnt_pos (by omega)
 | n + 1, x, μ, v, hc, hn, hG, C, hv => by
  have ih : ∀ (y : Pf) {μ : Mem} {v : Value}, y.cnt ≤ n → y.G → TurnC μ nm cl ca count more rn rf rc rk rm ra → RepV μ y.d v → Spec Tryz.prog 94 [v, .pointer (some ⟨rn, 0, none⟩), .pointer (some ⟨rf, 0, none⟩), .pointer (some ⟨rc, 0, none⟩), .pointer (some ⟨rk, 0, none⟩), .pointer (some ⟨rm, 0, none⟩), .pointer (some ⟨ra, 0, none⟩)] μ fun w μ' => Fresh μ μ' (turnN nm cl ca count more n y).d w := fun y _ _ h1 h2 h3 h4 => turn_spec hcl hcount hmore hca0 n y h1 (by omega) h2 h3 h4
  show Spec _ _ _ _ fun w μ' => Fresh μ μ' (turnB nm cl ca count more (turnN nm cl ca count more n) x).d w
  generalize turnN nm cl ca count more n = F at ih ⊢
  have hit : x.rel = nm ∧ x.clause = cl → hitC nm cl ca x = ca := fun k => if_pos k
  have miss : ¬ (x.rel = nm ∧ x.clause = cl) → hitC nm cl ca x = -1 := fun k => if_neg k
  unfold turnB
  generalize hitC nm cl ca x = A at hit miss ⊢
  have hce := x.cnt_eq1
  have hg1 := hG.cl0
  have hg2 := hG.cl1
  have hg3 := hG.len
  have hv0 := hv
  have w_ := Pf.inv hv
  obtain ⟨q, rfl, hvs, hks⟩ := w_
  have hkl := Pf.cnts_len x.kids
  have w_ := GndT.lifts hG.gnd
  obtain ⟨xs, hxs, hxl⟩ := w_
  have hcopy := copyTerms_own (cap := q.1.2) (xs := xs) (by rw [← hxs, hxl]; exact hvs) (by omega)
  rw [hxl, ← hxs] at hcopy
  have hmiss : A = -1 → valsT A x.kids x.kids.length = [] ∧ clauseT cl A x.kids x.clause x.kids.length = x.clause := fun e => ⟨by rw [valsT, if_neg (by omega)], by rw [clauseT, if_neg (by omega)]⟩
  refine Spec.mk Tryz.func94 (by kernel_rfl) ?_
  intro r7 r8
  refine cOw hcopy fun v1 μ1 h1 hle1 hap1 hR1 => ?_
  obtain ⟨r0, c0, ty0, us0, rfl, hrow0, hg0⟩ := hR1
  have hul := hg0.len
  rw [List.length_map] at hul
  intro r9
  refine ext_intro [.string nm] rfl (box_at (C.mono hle1).n) ?_
  refine ifnd (fun e1 => ?_) (fun e1 => ?_)
  ·have hA := miss fun k => e1 k.1
   have w_ := hmiss hA
   obtain ⟨hm1, hm2⟩ := w_
   rw [hm1, hm2, List.append_nil, if_neg fun k => e1 k.1, if_neg fun k => e1 k.1, List.append_nil, hA]
   refine loop_nil (fun z : Nat × (Option Nat × Nat × List Value) × Mem => z.1 ≤ x.kids.length ∧ μ.Le z.2.2 ∧ Apart z.2.2 h1 ∧ Grown2 4 4 μ z.2.2 ((x.values).map Tm.d) (((x.kids.take z.1).map F).map Pf.d) us0 z.2.1.2.2)
    (fun (i, (b, cp, ys), μ') => ⟨[(1, .val (.pointer (some ⟨rn, 0, none⟩))), (2, .val (.pointer (some ⟨rf, 0, none⟩))), (3, .val (.pointer (some ⟨rc, 0, none⟩))), (4, .val (.pointer (some ⟨rk, 0, none⟩))), (5, .val (.pointer (some ⟨rm, 0, none⟩))), (6, .val (.pointer (some ⟨ra, 0, none⟩))), (7, .loc 0 r7 0), (8, .loc 1 r8 0), (9, .loc 2 r9 0), (31, .val (.slice q.2.1 x.kids.length q.2.2)), (32, .val (.int .i64 x.kids.length)), (33, .val (.int .i64 i))], [(0, some (.cells r7 [.val (.string x.rel), .val (.int .i64 x.clause), .val (.slice q.1.1 x.values.length q.1.2), .val (.slice q.2.1 x.kids.length q.2.2)] 67)), (1, some (.cells r8 [.val (.string ⟨#[]⟩), .val (.int .i64 0), .val (.slice none 0 0), .val (.slice none 0 0)] 67)), (2, some (.cells r9 [.val (.string x.rel), .val (.int .i64 (x.clause)), .val (.slice (some ⟨r0, 0, none⟩) (us0.length) c0), .row 3 b ys.length cp] 67)), (3, some (.row b cp 67 4 ys))], 4, μ', h1⟩) (fun z => x.kids.length - z.1)
    (0, (none, 0, []), μ1) ⟨Nat.zero_le _, hle1, hap1, Grown2.start hg0⟩ (fun (_, (_, _, _), _) => ⟨rfl, rfl⟩) ?_ ?_
   ·exact ⟨⟨⟨_, rfl, .inl rfl⟩, ⟨_, rfl, .inl rfl⟩, ⟨_, rfl, .inl rfl⟩, ⟨_, rfl, .inl rfl⟩, ⟨_, rfl, .inl rfl⟩, ⟨_, rfl, .inl rfl⟩, ⟨_, rfl, .inl rfl⟩, ⟨_, rfl, .inl rfl⟩, ⟨_, rfl, .inl rfl⟩, ⟨_, rfl, .inl rfl⟩, ⟨_, rfl, .inl rfl⟩, ⟨_, rfl, .inl rfl⟩, trivial⟩, ⟨.inl rfl, .inl rfl, .inr (.inr ⟨_, _, _, _, rfl, rfl, .inl rfl, .inl rfl, .inl rfl, .inr ⟨3, rfl, rfl, Nat.le_refl _⟩, trivial⟩), .inr (.inl ⟨_, _, rfl, Nat.le_refl _⟩), trivial⟩, rfl, rfl⟩
   rintro ⟨i, ⟨b, cp, ys⟩, μ'⟩ ⟨hi, hle, hap, hgr⟩
   dsimp only at hi hle hap hgr
   have hyl : ys.length = i := by
    obtain ⟨g1, g2, a1, a2, _⟩ := hgr.out
    have := a2.len
    simp only [List.length_map, List.length_take] at this
    omega
   refine ifd (fun hlt => ?_) (fun hlt => ?_)
   ·have w_ := aSo (l := x.kids) (i := i) (by omega)
    obtain ⟨y, hy⟩ := w_
    have hym := Pf.cnt_mem (mAt hy)
    have w_ := Pf.elem (hks.mono hle) hy
    obtain ⟨ady, py, hely, hry⟩ := w_
    refine eIn hely ?_
    intro r15
    refine ext_intro [.func (.func turnF) #[] #[.pointer (some ⟨rn, 0, none⟩), .pointer (some ⟨rf, 0, none⟩), .pointer (some ⟨rc, 0, none⟩), .pointer (some ⟨rk, 0, none⟩), .pointer (some ⟨rm, 0, none⟩), .pointer (some ⟨ra, 0, none⟩)]] rfl (box_at (C.mono hle).f) ?_
    refine cDa hap (ih y (by omega) (hG.sub y (mAt hy)) (C.mono hle) hry) fun v5 μ5 hle5 hap5 hR5 => ?_
    have w_ := Pf.invV hR5.rep
    obtain ⟨q5, rfl⟩ := w_
    intro r90
    refine gIn ?_ ?_ fun b' cp' _ => ?_
    ·show (ys.length + 1) * 72 ≤ _; omega
    ·exact Nat.le_trans (m := 100000000) (show ys.length + 1 ≤ _ by omega) (by decide)
    refine num64 (by omega) (by omega) ⟨(i + 1, (b', cp', _), μ5), ⟨by dsimp only; omega, hle.trans hle5, hap5, ?_⟩, by dsimp only; omega, ⟨⟨rfl, rfl, rfl, rfl, rfl, rfl, rfl, rfl, rfl, rfl, rfl, rfl, trivial⟩, ⟨rfl, rfl, rfl, rfl, trivial⟩, rfl, rfl⟩⟩
    dsimp only
    rw [show ((x.kids.take (i + 1)).map F).map Pf.d = ((x.kids.take i).map F).map Pf.d ++ [(F y).d] from by rw [List.take_add_one, hy]; simp]
    exact hgr.snoc hle hR5 hle5 (Pf.d_n _)
   obtain rfl : i = x.kids.length := by omega
   have hk1 : kidsT F (-1) x.kids x.kids.length = x.kids.map F := by rw [kidsT_none _ (Nat.le_refl _), List.take_length]
   rw [List.take_length, ← hk1] at hgr
   have hmx : ys.length ≤ maxLen := Nat.le_trans (m := 100000000) (by omega) (by decide)
   refine ret_frzA [3] fun μ2 hle2 hno2 hat2 hap2 => .inr ⟨h1, Mem.nil, Parts.nil_right _, ?_⟩
   exact pf_finF hle hle2 hap2 hrow0 hgr hno2 hat2 hmx
  refine ext_intro [.int .i64 cl] rfl (box_at (C.mono hle1).c) ?_
  refine ifnd (fun e2 => ?_) (fun e2 => ?_)
  ·have hA := miss fun k => e2 k.2
   have w_ := hmiss hA
   obtain ⟨hm1, hm2⟩ := w_
   rw [hm1, hm2, List.append_nil, if_pos (show x.rel = nm ∧ x.clause ≠ cl from ⟨e1, e2⟩), hA]
   refine ext_intro [.int .i64 cl] rfl (box_at (C.mono hle1).c) ?_
   refine ifd (fun e3 => ?_) (fun e3 => ?_)
   ·rw [if_pos (show x.rel = nm ∧ x.clause > cl from ⟨e1, e3⟩)]
    refine ext_intro [.int .i64 count] rfl (box_at (C.mono hle1).k) ?_
    refine num64 (by omega) (by omega) ?_
    refine num64 (by omega) (by omega) ?_
    refine ext_intro [.int .i64 more] rfl (box_at (C.mono hle1).m) ?_
    refine zeros_intro more rfl ?_
    refine app_introT us0 ty0 rfl hrow0 ?_ ?_ fun r2 c2 o ty2 hrow2 hor => ?_
    ·rw [List.length_replicate]; show (us0.length + more) * 56 ≤ _; omega
    ·rw [List.length_replicate]; exact Nat.le_trans (m := 100000000) (show us0.length + more ≤ _ by omega) (by decide)
    have hap2 := hap1.set (o := o) (apartB hrow0 hap1 hor)
    generalize h1.set r2 o = h2 at hrow2 hap2
    have hg2' : Grown2 4 4 μ μ1 ((x.values ++ List.replicate more T.nil.tm).map Tm.d) [] (us0 ++ List.replicate more (.agg #[.int .i64 0, .int .i64 0, .string ⟨#[]⟩, .slice none 0 0])) [] := by
     rw [List.map_append]
     exact (Grown2.start hg0).app hle1 (nil_grown more) (Mem.Le.refl _)
    refine loop_nil (fun z : Nat × (Option Nat × Nat × List Value) × Mem => z.1 ≤ x.kids.length ∧ μ.Le z.2.2 ∧ Apart z.2.2 h2 ∧ Grown2 4 4 μ z.2.2 ((x.values ++ List.replicate more T.nil.tm).map Tm.d) (((x.kids.take z.1).map F).map Pf.d) (us0 ++ List.replicate more (.agg #[.int .i64 0, .int .i64 0, .string ⟨#[]⟩, .slice none 0 0])) z.2.1.2.2)
     (fun (i, (b, cp, ys), μ') => ⟨[(1, .val (.pointer (some ⟨rn, 0, none⟩))), (2, .val (.pointer (some ⟨rf, 0, none⟩))), (3, .val (.pointer (some ⟨rc, 0, none⟩))), (4, .val (.pointer (some ⟨rk, 0, none⟩))), (5, .val (.pointer (some ⟨rm, 0, none⟩))), (6, .val (.pointer (some ⟨ra, 0, none⟩))), (7, .loc 0 r7 0), (8, .loc 1 r8 0), (9, .loc 2 r9 0), (67, .val (.slice q.2.1 x.kids.length q.2.2)), (68, .val (.int .i64 x.kids.length)), (69, .val (.int .i64 i))], [(0, some (.cells r7 [.val (.string x.rel), .val (.int .i64 x.clause), .val (.slice q.1.1 x.values.length q.1.2), .val (.slice q.2.1 x.kids.length q.2.2)] 67)), (1, some (.cells r8 [.val (.string ⟨#[]⟩), .val (.int .i64 0), .val (.slice none 0 0), .val (.slice none 0 0)] 67)), (2, some (.cells r9 [.val (.string x.rel), .val (.int .i64 ((x.clause + count - 1))), .val (.slice (some ⟨r2, 0, none⟩) (us0.length + (List.replicate more (Value.agg #[.int .i64 0, .int .i64 0, .string ⟨#[]⟩, .slice none 0 0])).length) c2), .row 3 b ys.length cp] 67)), (3, some (.row b cp 67 4 ys))], 4, μ', h2⟩) (fun z => x.kids.length - z.1)
     (0, (none, 0, []), μ1) ⟨Nat.zero_le _, hle1, hap2, hg2'⟩ (fun (_, (_, _, _), _) => ⟨rfl, rfl⟩) ?_ ?_
    ·exact ⟨⟨⟨_, rfl, .inl rfl⟩, ⟨_, rfl, .inl rfl⟩, ⟨_, rfl, .inl rfl⟩, ⟨_, rfl, .inl rfl⟩, ⟨_, rfl, .inl rfl⟩, ⟨_, rfl, .inl rfl⟩, ⟨_, rfl, .inl rfl⟩, ⟨_, rfl, .inl rfl⟩, ⟨_, rfl, .inl rfl⟩, ⟨_, rfl, .inl rfl⟩, ⟨_, rfl, .inl rfl⟩, ⟨_, rfl, .inl rfl⟩, trivial⟩, ⟨.inl rfl, .inl rfl, .inr (.inr ⟨_, _, _, _, rfl, rfl, .inl rfl, .inl rfl, .inl rfl, .inr ⟨3, rfl, rfl, Nat.le_refl _⟩, trivial⟩), .inr (.inl ⟨_, _, rfl, Nat.le_refl _⟩), trivial⟩, rfl, rfl⟩
    rintro ⟨i, ⟨b, cp, ys⟩, μ'⟩ ⟨hi, hle, hap, hgr⟩
    dsimp only at hi hle hap hgr
    have hyl : ys.length = i := by
     obtain ⟨g1, g2, a1, a2, _⟩ := hgr.out
     have := a2.len
     simp only [List.length_map, List.length_take] at this
     omega
    refine ifd (fun hlt => ?_) (fun hlt => ?_)
    ·have w_ := aSo (l := x.kids) (i := i) (by omega)
     obtain ⟨y, hy⟩ := w_
     have hym := Pf.cnt_mem (mAt hy)
     have w_ := Pf.elem (hks.mono hle) hy
     obtain ⟨ady, py, hely, hry⟩ := w_
     refine eIn hely ?_
     intro r15
     refine ext_intro [.func (.func turnF) #[] #[.pointer (some ⟨rn, 0, none⟩), .pointer (some ⟨rf, 0, none⟩), .pointer (some ⟨rc, 0, none⟩), .pointer (some ⟨rk, 0, none⟩), .pointer (some ⟨rm, 0, none⟩), .pointer (some ⟨ra, 0, none⟩)]] rfl (box_at (C.mono hle).f) ?_
     refine cDa hap (ih y (by omega) (hG.sub y (mAt hy)) (C.mono hle) hry) fun v5 μ5 hle5 hap5 hR5 => ?_
     have w_ := Pf.invV hR5.rep
     obtain ⟨q5, rfl⟩ := w_
     intro r90
     refine gIn ?_ ?_ fun b' cp' _ => ?_
     ·show (ys.length + 1) * 72 ≤ _; omega
     ·exact Nat.le_trans (m := 100000000) (show ys.length + 1 ≤ _ by omega) (by decide)
     refine num64 (by omega) (by omega) ⟨(i + 1, (b', cp', _), μ5), ⟨by dsimp only; omega, hle.trans hle5, hap5, ?_⟩, by dsimp only; omega, ⟨⟨rfl, rfl, rfl, rfl, rfl, rfl, rfl, rfl, rfl, rfl, rfl, rfl, trivial⟩, ⟨rfl, rfl, rfl, rfl, trivial⟩, rfl, rfl⟩⟩
     dsimp only
     rw [show ((x.kids.take (i + 1)).map F).map Pf.d = ((x.kids.take i).map F).map Pf.d ++ [(F y).d] from by rw [List.take_add_one, hy]; simp]
     exact hgr.snoc hle hR5 hle5 (Pf.d_n _)
    obtain rfl : i = x.kids.length := by omega
    have hk1 : kidsT F (-1) x.kids x.kids.length = x.kids.map F := by rw [kidsT_none _ (Nat.le_refl _), List.take_length]
    rw [List.take_length, ← hk1] at hgr
    have hmx : ys.length ≤ maxLen := Nat.le_trans (m := 100000000) (by omega) (by decide)
    refine ret_frzA [3] fun μ2 hle2 hno2 hat2 hap2 => .inr ⟨h2, Mem.nil, Parts.nil_right _, ?_⟩
    have kf := pf_finF (rel := x.rel) (clz := (x.clause + count - 1)) hle hle2 hap2 hrow2 hgr hno2 hat2 hmx
    rw [List.length_append] at kf
    exact kf
   ·rw [if_neg fun k => e3 k.2]
    refine ext_intro [.int .i64 more] rfl (box_at (C.mono hle1).m) ?_
    refine zeros_intro more rfl ?_
    refine app_introT us0 ty0 rfl hrow0 ?_ ?_ fun r2 c2 o ty2 hrow2 hor => ?_
    ·rw [List.length_replicate]; show (us0.length + more) * 56 ≤ _; omega
    ·rw [List.length_replicate]; exact Nat.le_trans (m := 100000000) (show us0.length + more ≤ _ by omega) (by decide)
    have hap2 := hap1.set (o := o) (apartB hrow0 hap1 hor)
    generalize h1.set r2 o = h2 at hrow2 hap2
    have hg2' : Grown2 4 4 μ μ1 ((x.values ++ List.replicate more T.nil.tm).map Tm.d) [] (us0 ++ List.replicate more (.agg #[.int .i64 0, .int .i64 0, .string ⟨#[]⟩, .slice none 0 0])) [] := by
     rw [List.map_append]
     exact (Grown2.start hg0).app hle1 (nil_grown more) (Mem.Le.refl _)
    refine loop_nil (fun z : Nat × (Option Nat × Nat × List Value) × Mem => z.1 ≤ x.kids.length ∧ μ.Le z.2.2 ∧ Apart z.2.2 h2 ∧ Grown2 4 4 μ z.2.2 ((x.values ++ List.replicate more T.nil.tm).map Tm.d) (((x.kids.take z.1).map F).map Pf.d) (us0 ++ List.replicate more (.agg #[.int .i64 0, .int .i64 0, .string ⟨#[]⟩, .slice none 0 0])) z.2.1.2.2)
     (fun (i, (b, cp, ys), μ') => ⟨[(1, .val (.pointer (some ⟨rn, 0, none⟩))), (2, .val (.pointer (some ⟨rf, 0, none⟩))), (3, .val (.pointer (some ⟨rc, 0, none⟩))), (4, .val (.pointer (some ⟨rk, 0, none⟩))), (5, .val (.pointer (some ⟨rm, 0, none⟩))), (6, .val (.pointer (some ⟨ra, 0, none⟩))), (7, .loc 0 r7 0), (8, .loc 1 r8 0), (9, .loc 2 r9 0), (67, .val (.slice q.2.1 x.kids.length q.2.2)), (68, .val (.int .i64 x.kids.length)), (69, .val (.int .i64 i))], [(0, some (.cells r7 [.val (.string x.rel), .val (.int .i64 x.clause), .val (.slice q.1.1 x.values.length q.1.2), .val (.slice q.2.1 x.kids.length q.2.2)] 67)), (1, some (.cells r8 [.val (.string ⟨#[]⟩), .val (.int .i64 0), .val (.slice none 0 0), .val (.slice none 0 0)] 67)), (2, some (.cells r9 [.val (.string x.rel), .val (.int .i64 (x.clause)), .val (.slice (some ⟨r2, 0, none⟩) (us0.length + (List.replicate more (Value.agg #[.int .i64 0, .int .i64 0, .string ⟨#[]⟩, .slice none 0 0])).length) c2), .row 3 b ys.length cp] 67)), (3, some (.row b cp 67 4 ys))], 4, μ', h2⟩) (fun z => x.kids.length - z.1)
     (0, (none, 0, []), μ1) ⟨Nat.zero_le _, hle1, hap2, hg2'⟩ (fun (_, (_, _, _), _) => ⟨rfl, rfl⟩) ?_ ?_
    ·exact ⟨⟨⟨_, rfl, .inl rfl⟩, ⟨_, rfl, .inl rfl⟩, ⟨_, rfl, .inl rfl⟩, ⟨_, rfl, .inl rfl⟩, ⟨_, rfl, .inl rfl⟩, ⟨_, rfl, .inl rfl⟩, ⟨_, rfl, .inl rfl⟩, ⟨_, rfl, .inl rfl⟩, ⟨_, rfl, .inl rfl⟩, ⟨_, rfl, .inl rfl⟩, ⟨_, rfl, .inl rfl⟩, ⟨_, rfl, .inl rfl⟩, trivial⟩, ⟨.inl rfl, .inl rfl, .inr (.inr ⟨_, _, _, _, rfl, rfl, .inl rfl, .inl rfl, .inl rfl, .inr ⟨3, rfl, rfl, Nat.le_refl _⟩, trivial⟩), .inr (.inl ⟨_, _, rfl, Nat.le_refl _⟩), trivial⟩, rfl, rfl⟩
    rintro ⟨i, ⟨b, cp, ys⟩, μ'⟩ ⟨hi, hle, hap, hgr⟩
    dsimp only at hi hle hap hgr
    have hyl : ys.length = i := by
     obtain ⟨g1, g2, a1, a2, _⟩ := hgr.out
     have := a2.len
     simp only [List.length_map, List.length_take] at this
     omega
    refine ifd (fun hlt => ?_) (fun hlt => ?_)
    ·have w_ := aSo (l := x.kids) (i := i) (by omega)
     obtain ⟨y, hy⟩ := w_
     have hym := Pf.cnt_mem (mAt hy)
     have w_ := Pf.elem (hks.mono hle) hy
     obtain ⟨ady, py, hely, hry⟩ := w_
     refine eIn hely ?_
     intro r15
     refine ext_intro [.func (.func turnF) #[] #[.pointer (some ⟨rn, 0, none⟩), .pointer (some ⟨rf, 0, none⟩), .pointer (some ⟨rc, 0, none⟩), .pointer (some ⟨rk, 0, none⟩), .pointer (some ⟨rm, 0, none⟩), .pointer (some ⟨ra, 0, none⟩)]] rfl (box_at (C.mono hle).f) ?_
     refine cDa hap (ih y (by omega) (hG.sub y (mAt hy)) (C.mono hle) hry) fun v5 μ5 hle5 hap5 hR5 => ?_
     have w_ := Pf.invV hR5.rep
     obtain ⟨q5, rfl⟩ := w_
     intro r90
     refine gIn ?_ ?_ fun b' cp' _ => ?_
     ·show (ys.length + 1) * 72 ≤ _; omega
     ·exact Nat.le_trans (m := 100000000) (show ys.length + 1 ≤ _ by omega) (by decide)
     refine num64 (by omega) (by omega) ⟨(i + 1, (b', cp', _), μ5), ⟨by dsimp only; omega, hle.trans hle5, hap5, ?_⟩, by dsimp only; omega, ⟨⟨rfl, rfl, rfl, rfl, rfl, rfl, rfl, rfl, rfl, rfl, rfl, rfl, trivial⟩, ⟨rfl, rfl, rfl, rfl, trivial⟩, rfl, rfl⟩⟩
     dsimp only
     rw [show ((x.kids.take (i + 1)).map F).map Pf.d = ((x.kids.take i).map F).map Pf.d ++ [(F y).d] from by rw [List.take_add_one, hy]; simp]
     exact hgr.snoc hle hR5 hle5 (Pf.d_n _)
    obtain rfl : i = x.kids.length := by omega
    have hk1 : kidsT F (-1) x.kids x.kids.length = x.kids.map F := by rw [kidsT_none _ (Nat.le_refl _), List.take_length]
    rw [List.take_length, ← hk1] at hgr
    have hmx : ys.length ≤ maxLen := Nat.le_trans (m := 100000000) (by omega) (by decide)
    refine ret_frzA [3] fun μ2 hle2 hno2 hat2 hap2 => .inr ⟨h2, Mem.nil, Parts.nil_right _, ?_⟩
    have kf := pf_finF (rel := x.rel) (clz := x.clause) hle hle2 hap2 hrow2 hgr hno2 hat2 hmx
    rw [List.length_append] at kf
    exact kf
  have hA := hit ⟨e1, e2⟩
  rw [if_neg (show ¬ (x.rel = nm ∧ x.clause > cl) from fun k => by have := k.2; omega), if_neg (show ¬ (x.rel = nm ∧ x.clause ≠ cl) from fun k => k.2 e2), List.append_nil]
  refine loop_nil (fun z : Nat × (Option Nat × Nat × List Value) × (Nat × Nat × TypeId × List Value) × Mem × Mem => z.1 ≤ x.kids.length ∧ μ.Le z.2.2.2.1 ∧ Apart z.2.2.2.1 z.2.2.2.2 ∧ RowO z.2.2.2.2 z.2.2.1.1 z.2.2.1.2.1 z.2.2.1.2.2.1 4 z.2.2.1.2.2.2 ∧ Grown2 4 4 μ z.2.2.2.1 ((x.values ++ valsT A x.kids z.1).map Tm.d) ((kidsT F A x.kids z.1).map Pf.d) z.2.2.1.2.2.2 z.2.1.2.2)
   (fun (i, (b, cp, ys), (r, c, ty, us), μ', h) => ⟨[(1, .val (.pointer (some ⟨rn, 0, none⟩))), (2, .val (.pointer (some ⟨rf, 0, none⟩))), (3, .val (.pointer (some ⟨rc, 0, none⟩))), (4, .val (.pointer (some ⟨rk, 0, none⟩))), (5, .val (.pointer (some ⟨rm, 0, none⟩))), (6, .val (.pointer (some ⟨ra, 0, none⟩))), (7, .loc 0 r7 0), (8, .loc 1 r8 0), (9, .loc 2 r9 0), (84, .val (.slice q.2.1 x.kids.length q.2.2)), (85, .val (.int .i64 x.kids.length)), (86, .val (.int .i64 i))], [(0, some (.cells r7 [.val (.string x.rel), .val (.int .i64 x.clause), .val (.slice q.1.1 x.values.length q.1.2), .val (.slice q.2.1 x.kids.length q.2.2)] 67)), (1, some (.cells r8 [.val (.string ⟨#[]⟩), .val (.int .i64 0), .val (.slice none 0 0), .val (.slice none 0 0)] 67)), (2, some (.cells r9 [.val (.string x.rel), .val (.int .i64 (clauseT cl A x.kids x.clause i)), .val (.slice (some ⟨r, 0, none⟩) (us.length) c), .row 3 b ys.length cp] 67)), (3, some (.row b cp 67 4 ys))], 4, μ', h⟩) (fun z => x.kids.length - z.1)
   (0, (none, 0, []), (r0, c0, ty0, us0), μ1, h1) ⟨Nat.zero_le _, hle1, hap1, hrow0, by dsimp only; rw [valsT_zero, List.append_nil]; exact Grown2.start hg0⟩ (fun (_, (_, _, _), (_, _, _, _), _, _) => ⟨rfl, rfl⟩) ?_ ?_
  ·exact ⟨⟨⟨_, rfl, .inl rfl⟩, ⟨_, rfl, .inl rfl⟩, ⟨_, rfl, .inl rfl⟩, ⟨_, rfl, .inl rfl⟩, ⟨_, rfl, .inl rfl⟩, ⟨_, rfl, .inl rfl⟩, ⟨_, rfl, .inl rfl⟩, ⟨_, rfl, .inl rfl⟩, ⟨_, rfl, .inl rfl⟩, ⟨_, rfl, .inl rfl⟩, ⟨_, rfl, .inl rfl⟩, ⟨_, rfl, .inl rfl⟩, trivial⟩, ⟨.inl rfl, .inl rfl, .inr (.inr ⟨_, _, _, _, rfl, rfl, .inl rfl, .inl (by rw [clauseT_zero]), .inl rfl, .inr ⟨3, rfl, rfl, Nat.le_refl _⟩, trivial⟩), .inr (.inl ⟨_, _, rfl, Nat.le_refl _⟩), trivial⟩, rfl, rfl⟩
  rintro ⟨i, ⟨b, cp, ys⟩, ⟨r, c, ty, us⟩, μ', h⟩ ⟨hi, hle, hap, hrow, hgr⟩
  dsimp only at hi hle hap hrow hgr
  have hlens : ys.length = (kidsT F A x.kids i).length ∧ us.length = x.values.length + (valsT A x.kids i).length := by
   obtain ⟨g1, g2, a1, a2, _⟩ := hgr.out
   have k1 := a1.len
   have k2 := a2.len
   simp only [List.length_map, List.length_append] at k1 k2
   omega
  obtain ⟨hyl, hul2⟩ := hlens
  have hyb := kidsT_len (f := F) (ca := A) (xs := x.kids) i
  have hyb2 := Pf.cnts_le x.kids i
  refine ifd (fun hlt => ?_) (fun hlt => ?_)
  rotate_left
  ·obtain rfl : i = x.kids.length := by omega
   have hmx : ys.length ≤ maxLen := Nat.le_trans (m := 100000000) (by omega) (by decide)
   refine ret_frzA [3] fun μ2 hle2 hno2 hat2 hap2 => .inr ⟨h, Mem.nil, Parts.nil_right _, ?_⟩
   exact pf_finF hle hle2 hap2 hrow hgr hno2 hat2 hmx
  have w_ := aSo (l := x.kids) (i := i) (by omega)
  obtain ⟨y, hy⟩ := w_
  have hym := Pf.cnt_mem (mAt hy)
  have w_ := Pf.elem (hks.mono hle) hy
  obtain ⟨ady, py, hely, hry⟩ := w_
  refine eIn hely ?_
  intro r15
  refine ext_intro [.int .i64 ca] rfl (box_at (C.mono hle).a) ?_
  refine ifnd (fun e3 => ?_) (fun e3 => ?_)
  ·refine ext_intro [.func (.func turnF) #[] #[.pointer (some ⟨rn, 0, none⟩), .pointer (some ⟨rf, 0, none⟩), .pointer (some ⟨rc, 0, none⟩), .pointer (some ⟨rk, 0, none⟩), .pointer (some ⟨rm, 0, none⟩), .pointer (some ⟨ra, 0, none⟩)]] rfl (box_at (C.mono hle).f) ?_
   refine cDa hap (ih y (by omega) (hG.sub y (mAt hy)) (C.mono hle) hry) fun v5 μ5 hle5 hap5 hR5 => ?_
   have w_ := Pf.invV hR5.rep
   obtain ⟨q5, rfl⟩ := w_
   intro r90
   refine gIn ?_ ?_ fun b' cp' _ => ?_
   ·show (ys.length + 1) * 72 ≤ _; omega
   ·exact Nat.le_trans (m := 100000000) (show ys.length + 1 ≤ _ by omega) (by decide)
   have hno : ¬ (i : Int) = A := fun e => e3 (e.trans hA)
   refine num64 (by omega) (by omega) ⟨(i + 1, (b', cp', _), (r, c, ty, us), μ5, h), ⟨by dsimp only; omega, hle.trans hle5, hap5, hrow, ?_⟩, by dsimp only; omega, ⟨⟨rfl, rfl, rfl, rfl, rfl, rfl, rfl, rfl, rfl, rfl, rfl, rfl, trivial⟩, ⟨rfl, rfl, ?_, rfl, trivial⟩, rfl, rfl⟩⟩
   ·dsimp only
    rw [valsT_succ hy, if_neg hno, List.append_nil, kidsT_succ hy, if_neg hno, List.map_append (f := Pf.d)]
    exact hgr.snoc hle hR5 hle5 (Pf.d_n _)
   ·rw [clauseT_succ hy, if_neg hno]
    rfl
  have hGy := hG.sub y (mAt hy)
  have hy1 := hGy.cl0
  have hy2 := hGy.cl1
  have hy3 := hGy.len
  have hvl : (valsT A x.kids i).length = 0 := by
   rw [valsT, if_neg (by omega)]; rfl
  have w_ := Pf.inv hry
  obtain ⟨qy, ey, hvy, hky⟩ := w_
  have eqy : py = qy := by
   have e := congrArg (fun v => match v with | Value.agg a => a.toList | _ => []) ey
   simp only [Pf.cs, List.cons.injEq, Value.slice.injEq] at e
   obtain ⟨-, -, ⟨a1, -, a2⟩, ⟨a3, -, a4⟩, -⟩ := e
   exact Prod.ext (Prod.ext a1 a2) (Prod.ext a3 a4)
  subst eqy
  have w_ := GndT.lifts hGy.gnd
  obtain ⟨zs, hzs, hzl⟩ := w_
  have hcopy2 := copyTerms_row (μ := μ') (cap := py.1.2) (xs := zs) (by rw [← hzs, hzl]; exact hvy) (by omega)
  rw [hzl, ← hzs] at hcopy2
  refine cDa hap hcopy2 fun v5 μ5 hle5 hap5 hR5 => ?_
  obtain ⟨r5, c5, us5, μ5', rfl, hl51, hl52, hg5, _, _, hat5⟩ := hR5
  have hl5 := hg5.len
  rw [List.length_map] at hl5
  refine src_intro us5 hat5.src ?_
  refine app_introT us ty rfl hrow ?_ ?_ fun r9' c9 o ty9 hrow9 hor => ?_
  ·show (us.length + us5.length) * 56 ≤ _; omega
  ·exact Nat.le_trans (m := 100000000) (show us.length + us5.length ≤ _ by omega) (by decide)
  have hap9 := hap5.set (o := o) (apartB hrow hap5 hor)
  generalize h.set r9' o = h9 at hrow9 hap9
  have hg9 := hgr.app hle (hg5.mono hl52) hle5
  refine ext_intro [.int .i64 cl] rfl (box_at (C.mono (hle.trans hle5)).c) ?_
  refine num64 (by omega) (by omega) ?_
  have hkyn := Pf.cnts_len y.kids
  have hyce := y.cnt_eq1
  refine lIn (fun z : Nat × (Option Nat × Nat × List Value) × Mem => z.1 ≤ y.kids.length ∧ μ5.Le z.2.2 ∧ Apart z.2.2 h9 ∧ Grown2 4 4 μ z.2.2 ((x.values ++ valsT A x.kids i).map Tm.d ++ y.values.map Tm.d) ((kidsT F A x.kids i ++ (y.kids.take z.1).map F).map Pf.d) (us ++ us5) z.2.1.2.2)
   (fun (j, (b, cp, ys), μ') => ⟨[(1, .val (.pointer (some ⟨rn, 0, none⟩))), (2, .val (.pointer (some ⟨rf, 0, none⟩))), (3, .val (.pointer (some ⟨rc, 0, none⟩))), (4, .val (.pointer (some ⟨rk, 0, none⟩))), (5, .val (.pointer (some ⟨rm, 0, none⟩))), (6, .val (.pointer (some ⟨ra, 0, none⟩))), (7, .loc 0 r7 0), (8, .loc 1 r8 0), (9, .loc 2 r9 0), (84, .val (.slice q.2.1 x.kids.length q.2.2)), (85, .val (.int .i64 x.kids.length)), (86, .val (.int .i64 i)), (115, .val (.slice py.2.1 y.kids.length py.2.2)), (116, .val (.int .i64 y.kids.length)), (117, .val (.int .i64 j))], [(0, some (.cells r7 [.val (.string x.rel), .val (.int .i64 x.clause), .val (.slice q.1.1 x.values.length q.1.2), .val (.slice q.2.1 x.kids.length q.2.2)] 67)), (1, some (.cells r8 [.val (.string ⟨#[]⟩), .val (.int .i64 0), .val (.slice none 0 0), .val (.slice none 0 0)] 67)), (2, some (.cells r9 [.val (.string x.rel), .val (.int .i64 (cl + y.clause)), .val (.slice (some ⟨r9', 0, none⟩) (us.length + us5.length) c9), .row 3 b ys.length cp] 67)), (3, some (.row b cp 67 4 ys))], 5, μ', h9⟩) (fun z => y.kids.length - z.1)
   (0, (b, cp, ys), μ5) ⟨Nat.zero_le _, Mem.Le.refl _, hap9, by simpa using hg9⟩ (fun (_, (_, _, _), _) => ⟨rfl, rfl⟩) ⟨⟨rfl, rfl, rfl, rfl, rfl, rfl, rfl, rfl, rfl, rfl, rfl, rfl, rfl, rfl, rfl, trivial⟩, ⟨rfl, rfl, rfl, rfl, trivial⟩, rfl, rfl⟩ ?_
  rintro ⟨j, ⟨b2, cp2, ys2⟩, μ6⟩ ⟨hj, hle6, hap6, hgr2⟩
  dsimp only at hj hle6 hap6 hgr2
  have hyl2 : ys2.length = (kidsT F A x.kids i).length + j := by
   obtain ⟨g1, g2, a1, a2, _⟩ := hgr2.out
   have k2 := a2.len
   simp only [List.length_map, List.length_append, List.length_take] at k2
   omega
  have hle56 := hle.trans (hle5.trans hle6)
  refine ifd (fun hlt2 => ?_) (fun hlt2 => ?_)
  ·have w_ := aSo (l := y.kids) (i := j) (by omega)
   obtain ⟨z, hz⟩ := w_
   have hzm := Pf.cnt_mem (mAt hz)
   have w_ := Pf.elem (hky.mono (hle5.trans hle6)) hz
   obtain ⟨adz, pz, helz, hrz⟩ := w_
   refine eIn helz ?_
   intro r17
   refine ext_intro [.func (.func turnF) #[] #[.pointer (some ⟨rn, 0, none⟩), .pointer (some ⟨rf, 0, none⟩), .pointer (some ⟨rc, 0, none⟩), .pointer (some ⟨rk, 0, none⟩), .pointer (some ⟨rm, 0, none⟩), .pointer (some ⟨ra, 0, none⟩)]] rfl (box_at (C.mono hle56).f) ?_
   refine cDa hap6 (ih z (by omega) (hGy.sub z (mAt hz)) (C.mono hle56) hrz) fun v5 μ5_ hle5_ hap5_ hR5_ => ?_
   have w_ := Pf.invV hR5_.rep
   obtain ⟨q5, rfl⟩ := w_
   intro r90
   refine gIn ?_ ?_ fun b' cp' _ => ?_
   ·show (ys2.length + 1) * 72 ≤ _; omega
   ·exact Nat.le_trans (m := 100000000) (show ys2.length + 1 ≤ _ by omega) (by decide)
   refine num64 (by omega) (by omega) ⟨(j + 1, (b', cp', _), μ5_), ⟨by dsimp only; omega, hle6.trans hle5_, hap5_, ?_⟩, by dsimp only; omega, ⟨⟨rfl, rfl, rfl, rfl, rfl, rfl, rfl, rfl, rfl, rfl, rfl, rfl, rfl, rfl, rfl, trivial⟩, ⟨rfl, rfl, rfl, rfl, trivial⟩, rfl, rfl⟩⟩
   dsimp only
   rw [show (kidsT F A x.kids i ++ (y.kids.take (j + 1)).map F).map Pf.d = (kidsT F A x.kids i ++ (y.kids.take j).map F).map Pf.d ++ [(F z).d] from by rw [List.take_add_one, hz]; simp]
   exact hgr2.snoc hle56 hR5_ hle5_ (Pf.d_n _)
  obtain rfl : j = y.kids.length := by omega
  rw [List.take_length] at hgr2
  refine num64 (by omega) (by omega) ⟨(i + 1, (b2, cp2, ys2), (r9', c9, ty9, us ++ us5), μ6, h9), ⟨by dsimp only; omega, hle56, hap6, hrow9, ?_⟩, by dsimp only; omega, ⟨⟨rfl, rfl, rfl, rfl, rfl, rfl, rfl, rfl, rfl, rfl, rfl, rfl, trivial⟩, ⟨rfl, rfl, ?_, rfl, trivial⟩, rfl, rfl⟩⟩
  ·dsimp only
   rw [valsT_succ hy, if_pos (by omega), ← List.append_assoc, List.map_append (l₁ := x.values ++ _), kidsT_succ hy, if_pos (by omega)]
   exact hgr2
  ·rw [clauseT_succ hy, if_pos (by omega), List.length_append]
   rfl
end
end Go.Vx
