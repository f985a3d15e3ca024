/- Texts of the proof, part E1. -/
import Derived.Below
import Derived.MapKept
import Derived.Orders
import Derived.WalkKit
import Derived.WideKeyMaps
import Derived.Test.YtdkmmcmnffflaaaGreatM4
namespace Go.Vx
theorem call_go {P : Program} {f : FuncId} {args : List Value} {μ h0 : Mem} {K : Value → Mem → Prop} {K' : Value → Mem → Mem → Prop} {R : Value → Mem → Prop} (h : Spec P f args μ R)
  (k : ∀ v μ', μ.Le μ' → R v μ' → K v μ') : (∃ R, Spec P f args μ R ∧ ∀ v μ', μ.Le μ' → R v μ' → K v μ') ∨ ∃ R, SpecH P f args μ h0 R ∧ ∀ v μ' h', μ.Le μ' → Apart μ' h' → R v μ' h' → K' v μ' h' := .inl ⟨R, h, k⟩
end Go.Vx
namespace Go.Vx
open Go.Proofs
theorem und_bool : Tryz.prog.underlying 4 = some .bool := ti4.kind
end Go.Vx
namespace Go.Vx
open Go.Proofs Classical
section
variable {μ : Mem}
theorem markTerm_spec (t : Tm) {h : Mem} {v : Value} {k : Int} (ho : OwnV t.d h v) (hk : 0 ≤ k) (hk2 : k + D.cnts (t.args.map Tm.d) ≤ 9223372036854775807) :
  SpecH Tryz.prog 25 [v, .int .i64 k] μ h fun r μ' h' => r = .int .i64 (t.d.mt k).2 ∧ μ' = μ ∧ OwnV (t.d.mt k).1 h' v := by
 have ho2 : ∃ cs, v = .agg (List.toArray cs) ∧ Own t.d h cs := by rw [Tm.d_eq] at ho ⊢; exact ho
 obtain ⟨cs, rfl, ho2⟩ := ho2
 have w_ := Tm.own ho2
 obtain ⟨v, rfl, hv⟩ := w_
 have w_ := OwnV.slice hv
 obtain ⟨b2, cap2, rfl⟩ := w_
 refine SpecH.mk [] Tryz.func25 (by kernel_rfl) ?_
 intro r
 refine cOw (markTermS_spec hv hk hk2) fun v μ' h' hle hap hR => ?_
 obtain ⟨rfl, rfl, ho⟩ := hR
 rw [Tm.mt_eq]
 exact rPl ⟨rfl, rfl, _, rfl, OwnS.int (OwnS.int (OwnS.str (OwnS.last ho)))⟩
end
end Go.Vx
namespace Go.Vx
open Go.Proofs Classical
section
variable {μ : Mem}
theorem eachVar_spec {S : Type} (hp : S → Mem) (step : S → Int → S) {k : FuncId} {caps : List Value} {Q : Int → Prop}
  (hc : ∀ s n, Q n → SpecH Tryz.prog k (.int .i64 n :: caps) μ (hp s) fun r μ' h' => r = .tuple #[] ∧ μ' = μ ∧ h' = hp (step s n)) :
  ∀ (x : T) {v : Value} (s : S), RepV μ x.tm.d v → (∀ n ∈ x.vars, Q n) → SpecH Tryz.prog 173 [v, .func (.func k) #[] caps.toArray] μ (hp s) fun r μ' h' => r = .tuple #[] ∧ μ' = μ ∧ h' = hp (x.vars.foldl step s)
 | .var n, v, s, hv, hq => by
  have w_ := Tm.inv hv
  obtain ⟨base, cap, rfl, hsl⟩ := w_
  refine SpecH.mk [] Tryz.func173 (by kernel_rfl) ?_
  intro r
  refine ifd (fun _ => ?_) (fun h => absurd rfl h)
  refine cOw (hc s n (hq n (by simp [T.vars]))) fun v μ' h' hle hap hR => ?_
  obtain ⟨rfl, rfl, rfl⟩ := hR
  refine ifd (fun h => absurd h (by decide)) (fun _ => ?_)
  exact rPl ⟨rfl, rfl, rfl⟩
 | .nil, v, s, hv, hq => by
  have w_ := Tm.inv hv
  obtain ⟨base, cap, rfl, hsl⟩ := w_
  refine SpecH.mk [] Tryz.func173 (by kernel_rfl) ?_
  intro r
  refine ifd (fun h => absurd h (by decide)) (fun _ => ?_)
  refine ifd (fun h => absurd h (by decide)) (fun _ => ?_)
  exact rPl ⟨rfl, rfl, rfl⟩
 | .sym _, v, s, hv, hq => by
  have w_ := Tm.inv hv
  obtain ⟨base, cap, rfl, hsl⟩ := w_
  refine SpecH.mk [] Tryz.func173 (by kernel_rfl) ?_
  intro r
  refine ifd (fun h => absurd h (by decide)) (fun _ => ?_)
  refine ifd (fun h => absurd h (by decide)) (fun _ => ?_)
  exact rPl ⟨rfl, rfl, rfl⟩
 | .num _, v, s, hv, hq => by
  have w_ := Tm.inv hv
  obtain ⟨base, cap, rfl, hsl⟩ := w_
  refine SpecH.mk [] Tryz.func173 (by kernel_rfl) ?_
  intro r
  refine ifd (fun h => absurd h (by decide)) (fun _ => ?_)
  refine ifd (fun h => absurd h (by decide)) (fun _ => ?_)
  exact rPl ⟨rfl, rfl, rfl⟩
 | .pair a b, v, s, hv, hq => by
  have w_ := Tm.inv hv
  obtain ⟨base, cap, rfl, hsl⟩ := w_
  have w_ := T.parts hsl
  obtain ⟨ad, ad', p, p', h1, h2, hra, hrb⟩ := w_
  refine SpecH.mk [] Tryz.func173 (by kernel_rfl) ?_
  intro r
  refine ifd (fun h => absurd h (by decide)) (fun _ => ?_)
  refine ifd (fun _ => ?_) (fun h => absurd rfl h)
  refine eIn h1 (cOw (eachVar_spec hp step hc a s hra fun n hn => hq n (by simp [T.vars, hn])) fun v μ' h' hle hap hR => ?_)
  obtain ⟨rfl, e2, rfl⟩ := hR
  obtain rfl := e2.symm
  refine eIn h2 (cOw (eachVar_spec hp step hc b _ hrb fun n hn => hq n (by simp [T.vars, hn])) fun v μ' h' hle hap hR => ?_)
  obtain ⟨rfl, e2, rfl⟩ := hR
  obtain rfl := e2.symm
  exact rPl ⟨rfl, rfl, by simp [T.vars]⟩
def boolAt (r : Nat) (b : Bool) : Mem := Mem.nil.set r (.cells #[.bool b] 4 (0, 0))
theorem set_nil (r : Nat) (o o' : Obj) : (Mem.nil.set r o).set r o' = Mem.nil.set r o' := Mem.set_set _ _ _ _
theorem set_self (h : Mem) (r : Nat) (o : Obj) : h.set r o r = some o := by simp [Mem.set_get]
end
end Go.Vx
namespace Go.Vx
open Go.Proofs Classical
section
variable {μ : Mem}
theorem isGround1_spec (r : Nat) (b : Bool) (n : Int) : SpecH Tryz.prog 174 [.int .i64 n, .pointer (some ⟨r, 0, none⟩)] μ (boolAt r b) fun v μ' h' => v = .tuple #[] ∧ μ' = μ ∧ h' = boolAt r false := by
 refine SpecH.mk [] Tryz.func174 (by kernel_rfl) ?_
 refine sIn (h := boolAt r b) (a := ⟨r, 0, none⟩) [.bool b] 4 (set_self _ _ _) rfl ?_ ?_
 ·exact Nat.le_refl _
 exact rPl ⟨rfl, rfl, set_nil _ _ _⟩
theorem isGround_spec (x : T) {v : Value} (hv : RepV μ x.tm.d v) : Gives Tryz.prog 121 [v] μ (.bool (decide (x.vars = []))) := by
 have w_ := Tm.invV hv
 obtain ⟨p, rfl⟩ := w_
 refine Spec.mkO [3] Tryz.func121 (by kernel_rfl) ?_
 intro r r2 h1 h2
 refine sIn [.bool false] 4 (set_self _ _ _) rfl ?_ ?_
 ·exact Nat.le_refl _
 have e : ((Mem.nil.set r2 (.cells #[.bool false] 4 (0, 0))).set r2 (.cells #[.bool true] 4 (0, 0))) = boolAt r2 true := set_nil _ _ _
 refine cOw (R := fun r μ' h' => r = .tuple #[] ∧ μ' = μ ∧ h' = boolAt r2 (x.vars.foldl (fun _ _ => false) true)) ?_ fun v μ' h' hle hap hR => ?_
 ·have := eachVar_spec (boolAt r2) (fun _ _ => false) (Q := fun _ => True) (fun s n _ => isGround1_spec r2 s n) x true hv (fun _ _ => trivial)
  rw [← e] at this
  exact this
 obtain ⟨rfl, rfl, rfl⟩ := hR
 refine oIn [.bool (x.vars.foldl (fun _ _ => false) true)] rfl (fun j v hj => ?_) ?_
 ·match j, hj with
  | 0, hj => cases hj; simp [boolAt, Mem.cell, Addr.add_lit', set_self]
 ·refine rPl ⟨?_, rfl⟩
  have : ∀ (l : List Int) (b : Bool), l.foldl (fun _ _ => false) b = if l = [] then b else false := fun l => by
   induction l with
   | nil => simp
   | cons a l ih => intro b; simp only [List.foldl_cons, ih]; simp
  rw [this]
  by_cases h : x.vars = [] <;> simp [h]
end
end Go.Vx
namespace Go.Vx
open Go.Proofs Classical
section
variable {μ : Mem}
def InsOf (μ' : Mem) (l : List Int) (n : Int) (v : Value) : Prop := ∃ r : List Int, RepV μ' (.sl 1 (r.map D.i)) v ∧ (∀ x, x ∈ r ↔ x = n ∨ x ∈ l) ∧ r.length ≤ l.length + 1
theorem l02Insert_spec {l : List Int} {v : Value} {n : Int} (hv : RepV μ (.sl 1 (l.map D.i)) v) (hb : l.length ≤ 1000000000) : Spec Tryz.prog 177 [v, .int .i64 n] μ fun v μ' => InsOf μ' l n v := by
 have w_ := Rep.sl hv
 obtain ⟨base, cap, rfl, hsl⟩ := w_
 have hcap := Rep.lens hv
 rw [List.length_map] at hsl hcap hv ⊢
 refine Spec.mk Tryz.func177 (by kernel_rfl) ?_
 refine lIn (fun k : Nat => k ≤ l.length) (fun k => ⟨[(0, .val (.slice base l.length cap)), (1, .val (.int .i64 n)), (5, .val (.int .i64 k))], [], 0, μ, Mem.nil⟩) (fun k => k)
  l.length (Nat.le_refl _) (fun i => ⟨rfl, rfl⟩) ⟨⟨rfl, rfl, rfl, trivial⟩, trivial, rfl, rfl⟩ ?_
 intro k hk
 refine ifd (fun h1 => ?_) (fun h1 => ?_)
 ·have w_ := aSo (l := l) (i := k - 1) (by omega)
  obtain ⟨x, hx⟩ := w_
  have w_ := Ints.elem hsl hx
  obtain ⟨ad, hel⟩ := w_
  refine nEq (x := ((k - 1 : Nat) : Int)) (by rw [wrap64 (by omega) (by omega)]; omega) ?_
  refine eIn hel ?_
  refine ifd (fun h2 => ?_) (fun h2 => ?_)
  ·exact nEq (x := ((k - 1 : Nat) : Int)) (by rw [wrap64 (by omega) (by omega)]; omega) ⟨k - 1, by omega, by omega, ⟨⟨rfl, rfl, rfl, trivial⟩, trivial, rfl, rfl⟩⟩
  ·refine ifd (fun h3 => ?_) (fun h3 => ?_)
   ·have w_ := aSo (l := l) (i := k) (by omega)
    obtain ⟨y, hy⟩ := w_
    have w_ := Ints.elem hsl hy
    obtain ⟨ad2, hel2⟩ := w_
    refine eIn hel2 ?_
    refine ifd (fun h4 => rPl ⟨l, hv, fun x => ⟨.inr, fun hx => hx.elim (fun e => by rw [e, ← h4]; exact mAt hy) id⟩, by omega⟩) (fun h4 => ?_)
    intro r0
    refine cut_intro 0 k rfl rfl (by omega) (by omega) ?_
    refine src_intro _ (Ints.src hsl (a := 0) (b := k) (by omega) hk hcap) ?_
    refine gIn ?_ ?_ fun b1 c1 _ => ?_
    ·show (0 + (ints _).length) * 8 ≤ _; simp [ints]; omega
    ·show 0 + (ints _).length ≤ 9223372036854775807; simp [ints]; omega
    intro r1
    refine gIn ?_ ?_ fun b2 c2 _ => ?_
    ·show (([] ++ ints _).length + 1) * 8 ≤ _; simp [ints]; omega
    ·show ([] ++ ints _).length + 1 ≤ 9223372036854775807; simp [ints]; omega
    refine cut_intro k l.length rfl rfl hk (by omega) ?_
    refine src_intro _ (Ints.src hsl (a := k) (b := l.length) hk (Nat.le_refl _) hcap) ?_
    refine gIn ?_ ?_ fun b3 c3 _ => ?_
    ·show (([] ++ ints _ ++ [_]).length + (ints _).length) * 8 ≤ _; simp [ints]; omega
    ·show ([] ++ ints _ ++ [_]).length + (ints _).length ≤ 9223372036854775807; simp [ints]; omega
    refine rFz [0] fun μ' hle hno hrow => .inl ⟨insInt l n k, ?_, insInt_mem l n k, ?_⟩
    ·have e : [] ++ ints ((l.drop 0).take (k - 0)) ++ [.int .i64 n] ++ ints ((l.drop k).take (l.length - k)) = ints (insInt l n k) := by
      simp [ints, insInt]
      rw [List.take_of_length_le (by simp)]
     rw [e] at hrow ⊢
     exact Ints.sl hrow (Nat.le_trans (m := 2000000000) (by simp [insInt]; omega) (by decide))
    ·simp [insInt]; omega
   ·intro r0
    refine cut_intro 0 k rfl rfl (by omega) (by omega) ?_
    refine src_intro _ (Ints.src hsl (a := 0) (b := k) (by omega) hk hcap) ?_
    refine gIn ?_ ?_ fun b1 c1 _ => ?_
    ·show (0 + (ints _).length) * 8 ≤ _; simp [ints]; omega
    ·show 0 + (ints _).length ≤ 9223372036854775807; simp [ints]; omega
    intro r1
    refine gIn ?_ ?_ fun b2 c2 _ => ?_
    ·show (([] ++ ints _).length + 1) * 8 ≤ _; simp [ints]; omega
    ·show ([] ++ ints _).length + 1 ≤ 9223372036854775807; simp [ints]; omega
    refine cut_intro k l.length rfl rfl hk (by omega) ?_
    refine src_intro _ (Ints.src hsl (a := k) (b := l.length) hk (Nat.le_refl _) hcap) ?_
    refine gIn ?_ ?_ fun b3 c3 _ => ?_
    ·show (([] ++ ints _ ++ [_]).length + (ints _).length) * 8 ≤ _; simp [ints]; omega
    ·show ([] ++ ints _ ++ [_]).length + (ints _).length ≤ 9223372036854775807; simp [ints]; omega
    refine rFz [0] fun μ' hle hno hrow => .inl ⟨insInt l n k, ?_, insInt_mem l n k, ?_⟩
    ·have e : [] ++ ints ((l.drop 0).take (k - 0)) ++ [.int .i64 n] ++ ints ((l.drop k).take (l.length - k)) = ints (insInt l n k) := by
      simp [ints, insInt]
      rw [List.take_of_length_le (by simp)]
     rw [e] at hrow ⊢
     exact Ints.sl hrow (Nat.le_trans (m := 2000000000) (by simp [insInt]; omega) (by decide))
    ·simp [insInt]; omega
 ·refine ifd (fun h3 => ?_) (fun h3 => ?_)
  ·have w_ := aSo (l := l) (i := k) (by omega)
   obtain ⟨y, hy⟩ := w_
   have w_ := Ints.elem hsl hy
   obtain ⟨ad2, hel2⟩ := w_
   refine eIn hel2 ?_
   refine ifd (fun h4 => rPl ⟨l, hv, fun x => ⟨.inr, fun hx => hx.elim (fun e => by rw [e, ← h4]; exact mAt hy) id⟩, by omega⟩) (fun h4 => ?_)
   intro r0
   refine cut_intro 0 k rfl rfl (by omega) (by omega) ?_
   refine src_intro _ (Ints.src hsl (a := 0) (b := k) (by omega) hk hcap) ?_
   refine gIn ?_ ?_ fun b1 c1 _ => ?_
   ·show (0 + (ints _).length) * 8 ≤ _; simp [ints]; omega
   ·show 0 + (ints _).length ≤ 9223372036854775807; simp [ints]; omega
   intro r1
   refine gIn ?_ ?_ fun b2 c2 _ => ?_
   ·show (([] ++ ints _).length + 1) * 8 ≤ _; simp [ints]; omega
   ·show ([] ++ ints _).length + 1 ≤ 9223372036854775807; simp [ints]; omega
   refine cut_intro k l.length rfl rfl hk (by omega) ?_
   refine src_intro _ (Ints.src hsl (a := k) (b := l.length) hk (Nat.le_refl _) hcap) ?_
   refine gIn ?_ ?_ fun b3 c3 _ => ?_
   ·show (([] ++ ints _ ++ [_]).length + (ints _).length) * 8 ≤ _; simp [ints]; omega
   ·show ([] ++ ints _ ++ [_]).length + (ints _).length ≤ 9223372036854775807; simp [ints]; omega
   refine rFz [0] fun μ' hle hno hrow => .inl ⟨insInt l n k, ?_, insInt_mem l n k, ?_⟩
   ·have e : [] ++ ints ((l.drop 0).take (k - 0)) ++ [.int .i64 n] ++ ints ((l.drop k).take (l.length - k)) = ints (insInt l n k) := by
     simp [ints, insInt]
     rw [List.take_of_length_le (by simp)]
    rw [e] at hrow ⊢
    exact Ints.sl hrow (Nat.le_trans (m := 2000000000) (by simp [insInt]; omega) (by decide))
   ·simp [insInt]; omega
  ·intro r0
   refine cut_intro 0 k rfl rfl (by omega) (by omega) ?_
   refine src_intro _ (Ints.src hsl (a := 0) (b := k) (by omega) hk hcap) ?_
   refine gIn ?_ ?_ fun b1 c1 _ => ?_
   ·show (0 + (ints _).length) * 8 ≤ _; simp [ints]; omega
   ·show 0 + (ints _).length ≤ 9223372036854775807; simp [ints]; omega
   intro r1
   refine gIn ?_ ?_ fun b2 c2 _ => ?_
   ·show (([] ++ ints _).length + 1) * 8 ≤ _; simp [ints]; omega
   ·show ([] ++ ints _).length + 1 ≤ 9223372036854775807; simp [ints]; omega
   refine cut_intro k l.length rfl rfl hk (by omega) ?_
   refine src_intro _ (Ints.src hsl (a := k) (b := l.length) hk (Nat.le_refl _) hcap) ?_
   refine gIn ?_ ?_ fun b3 c3 _ => ?_
   ·show (([] ++ ints _ ++ [_]).length + (ints _).length) * 8 ≤ _; simp [ints]; omega
   ·show ([] ++ ints _ ++ [_]).length + (ints _).length ≤ 9223372036854775807; simp [ints]; omega
   refine rFz [0] fun μ' hle hno hrow => .inl ⟨insInt l n k, ?_, insInt_mem l n k, ?_⟩
   ·have e : [] ++ ints ((l.drop 0).take (k - 0)) ++ [.int .i64 n] ++ ints ((l.drop k).take (l.length - k)) = ints (insInt l n k) := by
     simp [ints, insInt]
     rw [List.take_of_length_le (by simp)]
    rw [e] at hrow ⊢
    exact Ints.sl hrow (Nat.le_trans (m := 2000000000) (by simp [insInt]; omega) (by decide))
   ·simp [insInt]; omega
theorem flatMap_take_le {α β : Type} (f : α → List β) (l : List α) (i : Nat) : ((l.take i).flatMap f).length ≤ (l.flatMap f).length := by
 have := congrArg (fun l => (l.flatMap f).length) (List.take_append_drop i l)
 simp only [List.flatMap_append, List.length_append] at this
 omega
theorem T.vars_size : ∀ x : T, x.vars.length ≤ x.size
 | .nil => by simp [T.vars]
 | .var _ => by simp [T.vars, T.size]
 | .sym _ => by simp [T.vars]
 | .num _ => by simp [T.vars]
 | .pair a b => by
  have := T.vars_size a
  have := T.vars_size b
  simp [T.vars, T.size]; omega
def VarsOf (μ' : Mem) (l vs : List Int) (v : Value) : Prop := ∃ r : List Int, RepV μ' (.sl 1 (r.map D.i)) v ∧ (∀ x, x ∈ r ↔ x ∈ vs ∨ x ∈ l) ∧ r.length ≤ l.length + vs.length
theorem l02Vars_spec : ∀ (x : T) {μ : Mem} {l : List Int} {w v : Value}, RepV μ x.tm.d w → RepV μ (.sl 1 (l.map D.i)) v → l.length + x.vars.length ≤ 1000000000 → Spec Tryz.prog 124 [w, v] μ fun v μ' => VarsOf μ' l x.vars v :=
 T.ind fun x ih μ l w v hw hv hb => by
  obtain ⟨base, cap, rfl, hsl⟩ : ∃ base cap, w = .agg #[.int .i64 x.tm.kind, .int .i64 x.tm.num, .string x.tm.name, .slice base x.args.length cap] ∧ Sl μ 4 base x.args.length ((x.args.map T.tm).map Tm.d) := by
   have h1 := Tm.inv (k := x.tm.kind) (n := x.tm.num) (s := x.tm.name) (l := x.tm.args) (v := w) (by cases x <;> exact hw)
   rw [T.tm_args, List.length_map] at h1
   exact h1
  have hn := maxLen_le hsl.max
  refine Spec.mk Tryz.func124 (by kernel_rfl) ?_
  intro r
  refine ifd (fun h => ?_) (fun h => ?_)
  ·have e : x.vars = [x.tm.num] := by cases x <;> simp_all [T.vars, T.tm, Tm.kind, Tm.num]
   refine cPl (l02Insert_spec hv (by omega)) fun v' μ' hle hR => rPl ?_
   obtain ⟨r, h1, h2, h3⟩ := hR
   exact ⟨r, h1, by simpa [e] using h2, by simpa [e] using h3⟩
  have e := T.vars_args h
  refine lIn (fun p : Nat × Value × Mem => p.1 ≤ x.args.length ∧ μ.Le p.2.2 ∧ VarsOf p.2.2 l ((x.args.take p.1).flatMap T.vars) p.2.1)
   (fun (i, v, μ') => ⟨[(1, .val v), (15, .val (.slice base x.args.length cap)), (16, .val (.int .i64 x.args.length)), (17, .val (.int .i64 i))], [], 1, μ', Mem.nil⟩) (fun p => x.args.length - p.1)
   (0, v, μ) ⟨by simp, Mem.Le.refl μ, l, hv, by simp, by simp⟩ (fun (_, _, _) => ⟨rfl, rfl⟩) ⟨⟨rfl, rfl, rfl, rfl, trivial⟩, trivial, rfl, rfl⟩ ?_
  rintro ⟨i, v, μ'⟩ ⟨hi, hle, r, h1, h2, h3⟩
  dsimp only at hi hle h1 h2 h3
  have hpre : ((x.args.take i).flatMap T.vars).length ≤ x.vars.length := by
   rw [e]; exact flatMap_take_le _ _ _
  refine ifd (fun h => ?_) (fun h => ?_)
  ·have w_ := aSo (l := x.args) (i := i) (by omega)
   obtain ⟨t, ht⟩ := w_
   have ht' : (x.args.map T.tm)[i]? = some t.tm := by simp [ht]
   have w_ := Tm.elem (hsl.mono hle) ht'
   obtain ⟨ad, p, hel, hr⟩ := w_
   have hsucc : (x.args.take (i + 1)).flatMap T.vars = (x.args.take i).flatMap T.vars ++ t.vars := by
    rw [List.take_add_one, ht, Option.toList_some, List.flatMap_append]; simp
   have hall : ((x.args.take (i + 1)).flatMap T.vars).length ≤ x.vars.length := by
    rw [e]; exact flatMap_take_le _ _ _
   rw [hsucc, List.length_append] at hall
   refine eIn hel ?_
   intro r2
   refine cPl (ih t (mAt ht) hr h1 (by omega)) fun v' μ'' hle2 hR => ?_
   obtain ⟨q, g1, g2, g3⟩ := hR
   refine num64 (by omega) (by omega) ⟨(i + 1, v', μ''), ⟨by dsimp only; omega, hle.trans hle2, q, g1, fun y => ?_, ?_⟩, by dsimp only; omega, ⟨⟨rfl, rfl, rfl, rfl, trivial⟩, trivial, rfl, rfl⟩⟩
   ·dsimp only
    rw [g2, h2, hsucc, List.mem_append]
    constructor
    ·rintro (h | h | h) <;> simp [h]
    ·rintro ((h | h) | h) <;> simp [h]
   ·dsimp only
    rw [hsucc, List.length_append]; omega
  ·have hi' : i = x.args.length := by omega
   subst hi'
   rw [List.take_length, ← e] at h2 h3
   exact rPl ⟨r, h1, h2, h3⟩
end
end Go.Vx
namespace Go.Vx
open Go.Proofs Classical
section
variable {μ : Mem}
theorem spec_IsGround_spec (x : T) {v : Value} (hv : RepV μ x.tm.d v) (hx : x.ok) (hw : x.tm.d.wd) : Gives Tryz.prog 61 [v] μ (.bool (decide (x.vars = []))) := by
 have w_ := Tm.invV hv
 obtain ⟨p, rfl⟩ := w_
 have := T.vars_size x
 have := hx.2
 refine Spec.forget (Spec.mk Tryz.func61 (by kernel_rfl) ?_)
 intro r
 refine cGv (spec_TermOk_spec x.tm hv hw) ?_
 refine ifd (fun _ => ?_) (fun h => absurd hx.tm h)
 refine cPl (l02Vars_spec x (l := []) hv (Rep.nilSl 1) (by simp; omega)) fun v' μ' hle hR => ?_
 obtain ⟨r, h1, h2, h3⟩ := hR
 have w_ := Rep.sl h1
 obtain ⟨b, c, rfl, _⟩ := w_
 refine rPl (isI ?_)
 rw [List.length_map]
 constructor
 ·intro hh
  have : r = [] := List.eq_nil_of_length_eq_zero (by omega)
  subst this
  cases hx : x.vars with
  | nil => rfl
  | cons a l =>
   have := (h2 a).2 (.inl (by simp [hx]))
   simp at this
 ·intro hh
  rw [hh] at h3
  simp at h3
  rw [h3]; rfl
end
end Go.Vx
namespace Go.Vx
open Go.Proofs Classical
section
variable {μ : Mem}
theorem l02Pair_spec {a b : T} {va vb : Value} (ha : RepV μ a.tm.d va) (hb : RepV μ b.tm.d vb) : Spec Tryz.prog 179 [va, vb] μ fun v μ' => RepV μ' (T.pair a b).tm.d v := by
 have w_ := Tm.invV ha
 obtain ⟨p, rfl⟩ := w_
 have w_ := Tm.invV hb
 obtain ⟨q, rfl⟩ := w_
 refine Spec.mk Tryz.func179 (by kernel_rfl) ?_
 intro r1 r2 r3 r4
 refine rFz [3] fun μ' hle hno hrow => .inl ?_
 rw [T.tm, Tm.d_mk]
 exact ⟨_, rfl, RepS.int (RepS.int (RepS.str (RepS.last (Rows.sl hrow (.cons (ha.mono hle) (Tm.d_n _) (.cons (hb.mono hle) (Tm.d_n _) .nil)) (show 2 ≤ maxLen by decide)))))⟩
theorem l04Get_spec {bs : List B} {base : Option Addr} {cap : Nat} {n : Int} (hsl : Sl μ 5 base bs.length ((bs.map B.bd).map Bd.d)) :
  Spec Tryz.prog 178 [.slice base bs.length cap, .int .i64 n] μ fun v μ' => optV (fun y tv => RepV μ y.tm.d tv) (sub bs n) v ∧ μ' = μ := by
 have hn := maxLen_le hsl.max
 refine Spec.mk Tryz.func178 (by kernel_rfl) ?_
 intro r
 refine lIn (fun i : Nat => i ≤ bs.length ∧ sub bs n = sub (bs.drop i) n) (fun i => ⟨[(1, .val (.int .i64 n)), (4, .loc 0 r 0), (8, .val (.slice base bs.length cap)), (9, .val (.int .i64 bs.length)), (10, .val (.int .i64 i))], [(0, some (.cells r [.val (.int .i64 0), .val (.int .i64 0), .val (.string ⟨#[]⟩), .val (.slice none 0 0)] 50))], 1, μ, Mem.nil⟩) (fun i => bs.length - i)
  0 ⟨by omega, rfl⟩ (fun i => ⟨rfl, rfl⟩) ⟨⟨rfl, rfl, rfl, rfl, rfl, trivial⟩, ⟨rfl, trivial⟩, rfl, rfl⟩ ?_
 rintro i ⟨hi, he⟩
 refine ifd (fun h => ?_) (fun h => ?_)
 ·have w_ := aSo (l := bs) (i := i) (by omega)
  obtain ⟨b, hb⟩ := w_
  have hb' : (bs.map B.bd)[i]? = some b.bd := by simp [hb]
  have w_ := Bd.elem hsl hb'
  obtain ⟨ad, p, hel, hr⟩ := w_
  have hto := Bd.toV hr
  rw [drop_at hb] at he
  refine eIn hel ?_
  intro r2
  refine ifd (fun h2 => ?_) (fun h2 => ?_)
  ·have h2 : b.var = n := h2
   have e2 : sub bs n = some b.to := by rw [he, sub, if_pos h2]
   rw [e2]
   exact rPl ⟨⟨_, rfl, hto⟩, rfl⟩
  ·have h2 : ¬ b.var = n := h2
   have e2 : sub bs n = sub (bs.drop (i + 1)) n := by rw [he, sub, if_neg h2]
   exact num64 (by omega) (by omega) ⟨i + 1, ⟨by omega, e2⟩, by omega, ⟨⟨rfl, rfl, rfl, rfl, rfl, trivial⟩, ⟨rfl, trivial⟩, rfl, rfl⟩⟩
 ·obtain rfl : i = bs.length := by omega
  rw [List.drop_length] at he
  rw [he]
  exact rPl ⟨rfl, rfl⟩
theorem l04Put_spec {bs : List B} {base : Option Addr} {cap : Nat} : ∀ (x : T) {μ : Mem} {v : Value}, Sl μ 5 base bs.length ((bs.map B.bd).map Bd.d) → RepV μ x.tm.d v →
  Spec Tryz.prog 126 [.slice base bs.length cap, v] μ fun v μ' => RepV μ' (x.subst (sub bs)).tm.d v := by
 intro x
 induction x with
 | var n =>
  intro μ v hsl hv
  have w_ := Tm.invV hv
  obtain ⟨p, rfl⟩ := w_
  refine Spec.mk Tryz.func126 (by kernel_rfl) ?_
  intro r1 r2
  refine ifd (fun _ => ?_) (fun h => absurd rfl h)
  refine cPl (l04Get_spec hsl) fun v' μ' hle hR => ?_
  obtain ⟨hR, e2⟩ := hR
  obtain rfl := e2.symm
  have hR : optV (fun y tv => RepV μ y.tm.d tv) (sub bs n) v' := hR
  simp only [T.subst]
  cases hs : sub bs n with
  | some y =>
   rw [hs] at hR
   obtain ⟨tv, rfl, htv⟩ := hR
   have w_ := Tm.invV htv
   obtain ⟨q, rfl⟩ := w_
   intro r3
   refine iIn (fun _ => rPl htv) (fun h => nomatch h)
  | none =>
   rw [hs] at hR
   obtain rfl := hR
   intro r3
   refine iIn (fun h => nomatch h) (fun _ => ?_)
   refine ifd (fun h => absurd h (by simp [T.tm, Tm.kind])) (fun _ => ?_)
   exact rPl hv
 | pair a b iha ihb =>
  intro μ v hsl hv
  have w_ := Tm.inv hv
  obtain ⟨base', cap', rfl, hsa⟩ := w_
  have w_ := T.parts hsa
  obtain ⟨ad, ad', p, p', h1, h2, hra, hrb⟩ := w_
  refine Spec.mk Tryz.func126 (by kernel_rfl) ?_
  intro r1 r2
  refine ifd (fun h => absurd h (by simp)) (fun _ => ?_)
  refine ifd (fun _ => ?_) (fun h => absurd rfl h)
  refine eIn h1 ?_
  refine eIn h2 ?_
  refine cPl (iha hsl hra) fun v1 μ1 hle1 hR1 => ?_
  refine cPl (ihb (hsl.mono hle1) (hrb.mono hle1)) fun v2 μ2 hle2 hR2 => ?_
  refine cPl (l02Pair_spec (hR1.mono hle2) hR2) fun v3 μ3 hle3 hR3 => ?_
  have w_ := Tm.invV hR3
  obtain ⟨q, rfl⟩ := w_
  exact rPl hR3
 | _ =>
  intro μ v hsl hv
  have w_ := Tm.invV hv
  obtain ⟨p, rfl⟩ := w_
  refine Spec.mk Tryz.func126 (by kernel_rfl) ?_
  intro r1 r2
  refine ifd (fun h => absurd h (by simp [T.tm, Tm.kind])) (fun _ => ?_)
  refine ifd (fun h => absurd h (by simp [T.tm, Tm.kind])) (fun _ => ?_)
  exact rPl hv
end
end Go.Vx
namespace Go.Vx
open Go.Proofs Classical
section
variable {μ : Mem}
def cntOf (f : Int → Option T) (n : Int) : Nat := match f n with | some y => y.size | none => 1
theorem subst_var_size (f : Int → Option T) (n : Int) : ((T.var n).subst f).size = cntOf f n := by
 simp only [T.subst, cntOf]
 cases f n <;> rfl
def CountsOn (Q : Int → Prop) (k : FuncId) (caps : List Value) (μ : Mem) (c : Int → Nat) : Prop := ∀ n, Q n → Gives Tryz.prog k (.int .i64 n :: caps) μ (.int .i64 (c n))
theorem sizeWith_specQ {Q : Int → Prop} {k : FuncId} {caps : List Value} {f : Int → Option T} (hk : CountsOn Q k caps μ (cntOf f)) (hf : ∀ n, Q n → cntOf f n ≤ 5000) : ∀ (x : T) {v : Value}, (∀ n ∈ x.vars, Q n) → RepV μ x.tm.d v →
  Gives Tryz.prog 132 [v, .func (.func k) #[] caps.toArray] μ (.int .i64 (min (x.subst f).size 5001 : Nat)) := by
 intro x
 induction x with
 | var n =>
  intro v hQ hv
  have w_ := Tm.invV hv
  obtain ⟨p, rfl⟩ := w_
  have hqn := hQ n (by simp [T.vars])
  have := hf n hqn
  refine Spec.mk Tryz.func132 (by kernel_rfl) ?_
  intro r1
  refine ifd (fun _ => ?_) (fun h => absurd rfl h)
  refine cGv (hk n hqn) (rGv ?_ rfl)
  rw [subst_var_size]
  congr 1
  show (if (5001 : Int) < (cntOf f n : Int) then (5001 : Int) else (cntOf f n : Int)) = _
  rw [if_neg (by omega)]
  omega
 | pair a b iha ihb =>
  intro v hQ hv
  have w_ := Tm.inv hv
  obtain ⟨base', cap', rfl, hsa⟩ := w_
  have w_ := T.parts hsa
  obtain ⟨ad, ad', p, p', h1, h2, hra, hrb⟩ := w_
  have hs : ((T.pair a b).subst f).size = 1 + (a.subst f).size + (b.subst f).size := rfl
  refine Spec.mk Tryz.func132 (by kernel_rfl) ?_
  intro r1
  refine ifd (fun h => absurd h (by simp)) (fun _ => ?_)
  refine ifd (fun _ => ?_) (fun h => absurd rfl h)
  refine eIn h1 ?_
  refine cGv (iha (fun n hn => hQ n (by simp [T.vars, hn])) hra) ?_
  refine ifd (fun h => rGv ?_ rfl) (fun h => ?_)
  ·rw [hs]; congr 1; omega
  ·refine num64 (by omega) (by omega) ?_
   refine eIn h2 ?_
   refine cGv (ihb (fun n hn => hQ n (by simp [T.vars, hn])) hrb) ?_
   refine num64 (by omega) (by omega) (rGv ?_ rfl)
   rw [hs]
   congr 1
   split <;> omega
 | _ =>
  intro v hQ hv
  have w_ := Tm.invV hv
  obtain ⟨p, rfl⟩ := w_
  refine Spec.mk Tryz.func132 (by kernel_rfl) ?_
  intro r1
  refine ifd (fun h => absurd h (by simp [T.tm, Tm.kind])) (fun _ => ?_)
  refine ifd (fun h => absurd h (by simp [T.tm, Tm.kind])) (fun _ => ?_)
  exact rGv rfl rfl
end
end Go.Vx
namespace Go.Vx
open Go.Proofs Classical
theorem sub_ok : ∀ {bs : List B} (_ : ∀ b ∈ bs, b.to.ok) {n : Int} {y : T}, sub bs n = some y → y.ok
 | [], _, n, y, h => by simp [sub] at h
 | c :: bs, hk, n, y, h => by
  rw [sub] at h
  split at h
  ·cases h; exact hk c (by simp)
  ·exact sub_ok (fun b hb => hk b (by simp [hb])) h
section
variable {μ : Mem}
theorem replaced1_counts {Q : Int → Prop} {k : FuncId} {caps : List Value} {f : Int → Option T} {r : Nat} {ty : TypeId} (hk : LooksOn Q k caps μ f) (hf : ∀ n y, Q n → f n = some y → y.ok) (h : μ r = some (.cells #[.func (.func k) #[] caps.toArray] ty (0, 0))) :
  CountsOn Q 133 [.pointer (some ⟨r, 0, none⟩)] μ (cntOf f) := fun n hq => by
 refine (Spec.forget (R := fun v => v = .int .i64 (cntOf f n)) (Spec.mk Tryz.func133 (by kernel_rfl) ?_))
 refine ext_intro [.func (.func k) #[] caps.toArray] rfl (box_at h) ?_
 refine cPl (hk μ (Mem.Le.refl μ) n hq) fun v μ1 hle1 hR => ?_
 simp only [cntOf]
 cases hs : f n with
 | some y =>
  rw [hs] at hR
  obtain ⟨tv, rfl, htv⟩ := hR
  have w_ := Tm.invV htv
  obtain ⟨q, rfl⟩ := w_
  intro r3
  refine iIn (fun _ => ?_) (fun h => nomatch h)
  refine cGv (nodesOf_spec y.tm htv (by decide) (by decide)) ?_
  have hy := (hf n y hq hs).tm
  rw [Tm.nodes_pos hy.1 (by have := hy.2; omega), T.cnt_tm]
  exact rPl rfl
 | none =>
  rw [hs] at hR
  obtain rfl := hR
  intro r3
  refine iIn (fun h => nomatch h) (fun _ => ?_)
  exact rPl rfl
theorem replaced_specQ {Q : Int → Prop} {k : FuncId} {caps : List Value} {f : Int → Option T} (x : T) {v : Value} (hQ : ∀ n ∈ x.vars, Q n) (hk : LooksOn Q k caps μ f) (hf : ∀ n y, Q n → f n = some y → y.ok) (hv : RepV μ x.tm.d v) :
  Spec Tryz.prog 72 [v, .func (.func k) #[] caps.toArray] μ fun v μ' => optV (fun y tv => Fresh μ μ' y.tm.d tv) (fit (x.subst f)) v := by
 have w_ := Tm.invV hv
 obtain ⟨p, rfl⟩ := w_
 have hc : ∀ n, Q n → cntOf f n ≤ 5000 := fun n hq => by
  simp only [cntOf]
  split
  ·rename_i y hy
   exact (hf n y hq hy).2
  ·omega
 refine Spec.mk Tryz.func72 (by kernel_rfl) ?_
 intro r1 r2 r3
 refine call_frz [1] ?_
 intro μ1 hle1 hno1 hat1
 have hk1 : LooksOn Q k caps μ1 f := fun μ' h => hk μ' (hle1.trans h)
 refine call_go (sizeWith_specQ (replaced1_counts hk1 hf hat1) hc x hQ (hv.mono hle1)) fun v μ2 hle2 hR => ?_
 obtain ⟨rfl, e2⟩ := hR
 obtain rfl := e2.symm
 refine ifd (fun h => ?_) (fun h => ?_)
 ·rw [fit, if_neg (by omega)]
  exact rPl rfl
 ·rw [fit, if_pos (by omega)]
  refine ext_intro [.func (.func k) #[] caps.toArray] rfl (box_at hat1) ?_
  refine cPl (mapVars_specQ x hQ hk1 (hv.mono hle1)) fun v2 μ3 hle3 hR3 => ?_
  have w_ := Tm.invV hR3.rep
  obtain ⟨q, rfl⟩ := w_
  exact rPl ⟨_, rfl, hR3.mono hle1 (Mem.Le.refl _)⟩
end
end Go.Vx
namespace Go.Vx
open Go.Proofs Classical
theorem tm_mt (t : Tm) (k : Int) : (t.d.mt k).2 = k + D.cnts (t.args.map Tm.d) := by rw [Tm.mt_eq]; exact D.mks_cnt _ _
end Go.Vx
namespace Go.Vx
open Go.Proofs Classical
theorem sgn_ne (b : Bool) : sgn b ≠ 0 := by cases b <;> simp [sgn]
theorem hdCmp_zero {x y : Tm} {r : Int} : hdCmp x y r = 0 ↔ x.kind = y.kind ∧ x.num = y.num ∧ x.name = y.name ∧ r = 0 := by
 unfold hdCmp
 split
 ·rename_i h; exact ⟨fun k => absurd k (sgn_ne _), fun k => absurd k.1 h⟩
 ·split
  ·rename_i h; exact ⟨fun k => absurd k (sgn_ne _), fun k => absurd k.2.1 h⟩
  ·split
   ·rename_i h; exact ⟨fun k => absurd k (sgn_ne _), fun k => absurd k.2.2.1 h⟩
   ·rename_i h1 h2 h3
    exact ⟨fun k => ⟨Classical.not_not.1 h1, Classical.not_not.1 h2, Classical.not_not.1 h3, k⟩, fun k => k.2.2.2⟩
theorem T.cmp_zero : ∀ x y : T, x.cmp y = 0 ↔ x = y := by
 intro x
 induction x with
 | pair a b iha ihb =>
  intro y
  cases y with
  | pair c d =>
   rw [T.cmp, T.pair.injEq, ← iha, ← ihb]
   split
   ·rename_i h; exact ⟨fun k => ⟨h, k⟩, fun k => k.2⟩
   ·rename_i h; exact ⟨fun k => absurd k h, fun k => absurd k.1 h⟩
  | _ => rw [T.cmp, hdCmp_zero]; simp [T.tm, Tm.kind]
 | _ =>
  intro y
  rw [T.cmp, hdCmp_zero]
  cases y <;> simp [T.tm, Tm.kind, Tm.num, Tm.name]
theorem hd1 {x y : Tm} {r : Int} (h : ¬ x.kind = y.kind) : hdCmp x y r = sgn (decide (x.kind < y.kind)) := by rw [hdCmp, if_pos h]
theorem hd3 {x y : Tm} {r : Int} (h1 : x.kind = y.kind) (h2 : x.num = y.num) (h : ¬ x.name = y.name) : hdCmp x y r = sgn (Op.bytesLess x.name.data.toList y.name.data.toList) := by rw [hdCmp, if_neg (fun k => k h1), if_neg (fun k => k h2), if_pos h]
theorem hd4 {x y : Tm} {r : Int} (h1 : x.kind = y.kind) (h2 : x.num = y.num) (h : x.name = y.name) : hdCmp x y r = r := by rw [hdCmp, if_neg (fun k => k h1), if_neg (fun k => k h2), if_neg (fun k => k h)]
section
variable {μ : Mem}
theorem orderInts_spec (a b : Int) (h : ¬ a = b) : Gives Tryz.prog 213 [.int .i64 a, .int .i64 b] μ (.int .i64 (sgn (decide (a < b)))) := by
 refine Spec.mk Tryz.func213 (by kernel_rfl) ?_
 refine ifd (fun h1 => rGv ?_ rfl) (fun h1 => ?_)
 ·rw [decide_eq_true h1]; rfl
 refine ifd (fun h2 => rGv ?_ rfl) (fun h2 => by omega)
 rw [decide_eq_false h1]; rfl
theorem l02Sign_spec (b : Bool) : Gives Tryz.prog 212 [.bool b] μ (.int .i64 (sgn b)) := by
 refine Spec.mk Tryz.func212 (by kernel_rfl) ?_
 refine iIn (fun h1 => rGv ?_ rfl) (fun h1 => rGv ?_ rfl)
 ·rw [h1]; rfl
 ·rw [h1]; rfl
theorem T.cmp_eq (x y : T) : x.cmp y = hdCmp x.tm y.tm (x.rest y) := by
 cases x with
 | pair a b =>
  cases y with
  | pair c d => rw [T.cmp, hd4 (x := (T.pair a b).tm) (y := (T.pair c d).tm) rfl rfl rfl]; rfl
  | _ => rw [T.cmp]; rfl
 | _ => rw [T.cmp]; rfl
theorem T.rest_at {x y : T} {i : Nat} {p q : T} (h : ∀ j p q, j < i → x.args[j]? = some p → y.args[j]? = some q → p.cmp q = 0) (hp : x.args[i]? = some p) (hq : y.args[i]? = some q) (hne : p.cmp q ≠ 0) : x.rest y = p.cmp q := by
 cases x with
 | pair a b =>
  cases y with
  | pair c d =>
   simp only [T.rest]
   match i, hp, hq with
   | 0, hp, hq => cases hp; cases hq; rw [if_neg hne]
   | 1, hp, hq =>
    cases hp; cases hq
    have := h 0 a c (by omega) rfl rfl
    rw [if_pos this]
   | i + 2, hp, hq => simp [T.args] at hp
  | _ => simp [T.args] at hq
 | _ => simp [T.args] at hp
theorem T.rest_zero {x y : T} (h : ∀ (j : Nat) p q, j < x.args.length → x.args[j]? = some p → y.args[j]? = some q → p.cmp q = 0) : x.rest y = 0 := by
 cases x with
 | pair a b =>
  cases y with
  | pair c d =>
   have h0 := h 0 a c (by simp [T.args]) rfl rfl
   have h1 := h 1 b d (by simp [T.args]) rfl rfl
   simp only [T.rest]
   rw [if_pos h0, h1]
  | _ => rfl
 | _ => rfl
theorem T.args_kind {x y : T} (h : x.tm.kind = y.tm.kind) : x.args.length = y.args.length := by
 cases x <;> cases y <;> simp_all [T.tm, Tm.kind, T.args]
theorem T.kind4 {x : T} (h : x.tm.kind = 4) : ∃ a b, x = .pair a b := by
 cases x <;> simp_all [T.tm, Tm.kind]
theorem T.arg {μ : Mem} {x : T} {base : Option Addr} (h : Sl μ 4 base x.args.length ((x.args.map T.tm).map Tm.d)) {i : Nat} {y : T} (hy : x.args[i]? = some y) : ∃ ad, ∃ p : Option Addr × Nat, ElemAt μ base x.args.length 4 i ad (y.tm.cs p) ∧ RepV μ y.tm.d (.agg (y.tm.cs p).toArray) :=
 Tm.elem h (by simp [hy])
theorem orderTerms_spec : ∀ (x y : T) {v w : Value}, RepV μ x.tm.d v → RepV μ y.tm.d w → Gives Tryz.prog 167 [v, w] μ (.int .i64 (x.cmp y)) :=
 T.ind fun x ih y v w hv hw => by
  have w_ := T.inv hv
  obtain ⟨b1, c1, rfl, hs1⟩ := w_
  have w_ := T.inv hw
  obtain ⟨b2, c2, rfl, hs2⟩ := w_
  rw [T.cmp_eq]
  refine Spec.mk Tryz.func167 (by kernel_rfl) ?_
  intro r1 r2
  refine ifnd (fun h => ?_) (fun h1 => ?_)
  ·exact cGv (orderInts_spec _ _ h) (rGv (by rw [hd1 h]) rfl)
  refine ifnd (fun h => ?_) (fun h2 => ?_)
  ·exact cGv (orderInts_spec _ _ h) (rGv (by rw [hd2 h1 h]) rfl)
  refine ifnd (fun h => ?_) (fun h3 => ?_)
  ·refine iIn (fun h4 => rGv ?_ rfl) (fun h4 => rGv ?_ rfl)
   ·rw [hd3 h1 h2 h, h4]; rfl
   ·rw [hd3 h1 h2 h, h4]; rfl
  rw [hd4 h1 h2 h3]
  refine ifnd (fun h => ?_) (fun h4 => ?_)
  ·refine rGv ?_ rfl
   have : x.rest y = 0 := by cases x <;> first | rfl | exact absurd rfl h
   rw [this]
  have w_ := T.kind4 h4
  obtain ⟨a, b, rfl⟩ := w_
  have w_ := T.kind4 (h1 ▸ h4)
  obtain ⟨c, d, rfl⟩ := w_
  have w_ := T.arg hs1 (i := 0) rfl
  obtain ⟨ad1, p1, e1, g1⟩ := w_
  have w_ := T.arg hs2 (i := 0) rfl
  obtain ⟨ad2, p2, e2, g2⟩ := w_
  have w_ := T.arg hs1 (i := 1) rfl
  obtain ⟨ad3, p3, e3, g3⟩ := w_
  have w_ := T.arg hs2 (i := 1) rfl
  obtain ⟨ad4, p4, e4, g4⟩ := w_
  refine eIn e1 (eIn e2 (cGv (ih a (by simp [T.args]) c g1 g2) ?_))
  simp only [T.rest]
  refine ifnd (fun h => ?_) (fun h5 => ?_)
  ·rw [if_neg h]; exact rGv rfl rfl
  ·rw [if_pos h5]
   exact eIn e3 (eIn e4 (cGv (ih b (by simp [T.args]) d g3 g4) (rGv rfl rfl)))
theorem l02Cmp_spec : ∀ (x y : T) {v w : Value}, RepV μ x.tm.d v → RepV μ y.tm.d w → Gives Tryz.prog 165 [v, w] μ (.int .i64 (x.cmp y)) :=
 T.ind fun x ih y v w hv hw => by
  have w_ := T.inv hv
  obtain ⟨b1, c1, rfl, hs1⟩ := w_
  have w_ := T.inv hw
  obtain ⟨b2, c2, rfl, hs2⟩ := w_
  have hn := T.args_le x
  rw [T.cmp_eq]
  refine Spec.mk Tryz.func165 (by kernel_rfl) ?_
  intro r1 r2
  refine ifnd (fun h => ?_) (fun h1 => ?_)
  ·exact cGv (l02Sign_spec _) (rGv (by rw [hd1 h]) rfl)
  refine ifnd (fun h => ?_) (fun h2 => ?_)
  ·exact cGv (l02Sign_spec _) (rGv (by rw [hd2 h1 h]) rfl)
  refine ifnd (fun h => ?_) (fun h3 => ?_)
  ·exact cGv (l02Sign_spec _) (rGv (by rw [hd3 h1 h2 h]) rfl)
  rw [hd4 h1 h2 h3]
  have hlen := T.args_kind h1
  refine lIn (fun i : Nat => i ≤ x.args.length ∧ ∀ j p q, j < i → x.args[j]? = some p → y.args[j]? = some q → p.cmp q = 0) (fun i => ⟨[(2, .loc 0 r1 0), (3, .loc 1 r2 0), (5, .val (.int .i64 i))], [(0, some (.cells r1 [.val (.int .i64 x.tm.kind), .val (.int .i64 x.tm.num), .val (.string x.tm.name), .val (.slice b1 x.args.length c1)] 50)), (1, some (.cells r2 [.val (.int .i64 y.tm.kind), .val (.int .i64 y.tm.num), .val (.string y.tm.name), .val (.slice b2 y.args.length c2)] 50))], 2, μ, Mem.nil⟩) (fun i => x.args.length - i)
   0 ⟨by omega, fun j p q hj => by omega⟩ (fun i => ⟨rfl, rfl⟩) ⟨⟨rfl, rfl, rfl, trivial⟩, ⟨rfl, rfl, trivial⟩, rfl, rfl⟩ ?_
  rintro i ⟨hi, hz⟩
  refine ifd (fun h => ?_) (fun h => ?_)
  ·refine ifd (fun h' => ?_) (fun h' => by omega)
   have w_ := aSo (l := x.args) (i := i) (by omega)
   obtain ⟨p, hp⟩ := w_
   have w_ := aSo (l := y.args) (i := i) (by omega)
   obtain ⟨q, hq⟩ := w_
   have w_ := T.arg hs1 hp
   obtain ⟨ad1, p1, e1, g1⟩ := w_
   have w_ := T.arg hs2 hq
   obtain ⟨ad2, p2, e2, g2⟩ := w_
   refine eIn e1 (eIn e2 (cGv (ih p (mAt hp) q g1 g2) ?_))
   refine ifnd (fun h5 => ?_) (fun h5 => ?_)
   ·rw [T.rest_at hz hp hq h5]; exact rGv rfl rfl
   ·refine num64 (by omega) (by omega) ⟨i + 1, ⟨by omega, fun j p' q' hj hp' hq' => ?_⟩, by omega, ⟨⟨rfl, rfl, rfl, trivial⟩, ⟨rfl, rfl, trivial⟩, rfl, rfl⟩⟩
    rcases Nat.lt_or_ge j i with h6 | h6
    ·exact hz j p' q' h6 hp' hq'
    ·obtain rfl : j = i := by omega
     rw [hp] at hp'; rw [hq] at hq'; cases hp'; cases hq'; exact h5
  ·obtain rfl : i = x.args.length := by omega
   rw [T.rest_zero hz]
   exact rGv rfl rfl
theorem equalTerms_spec (x y : T) {v w : Value} (hv : RepV μ x.tm.d v) (hw : RepV μ y.tm.d w) : Gives Tryz.prog 117 [v, w] μ (.bool (decide (x = y))) := by
 have w_ := Tm.invV hv
 obtain ⟨p, rfl⟩ := w_
 have w_ := Tm.invV hw
 obtain ⟨q, rfl⟩ := w_
 refine Spec.mk Tryz.func117 (by kernel_rfl) ?_
 intro r1 r2
 exact cGv (orderTerms_spec x y hv hw) (rGv (isI (T.cmp_zero x y)) rfl)
theorem l02Same_spec (x y : T) {v w : Value} (hv : RepV μ x.tm.d v) (hw : RepV μ y.tm.d w) : Gives Tryz.prog 113 [v, w] μ (.bool (decide (x = y))) := by
 have w_ := Tm.invV hv
 obtain ⟨p, rfl⟩ := w_
 have w_ := Tm.invV hw
 obtain ⟨q, rfl⟩ := w_
 refine Spec.mk Tryz.func113 (by kernel_rfl) ?_
 intro r1 r2
 exact cGv (l02Cmp_spec x y hv hw) (rGv (isI (T.cmp_zero x y)) rfl)
theorem varV_own (n : Int) : OwnV (T.var n).tm.d Mem.nil (varV n) := by
 rw [T.d_eq]
 exact ⟨_, rfl, OwnS.int (OwnS.int (OwnS.str (OwnS.last (Own.nilSl 4))))⟩
theorem varV_rep (n : Int) : RepV μ (T.var n).tm.d (varV n) := (varV_own n).rep (fun _ _ h => nomatch h)
end
end Go.Vx
namespace Go.Vx
open Go.Proofs Classical
theorem mapM_all {α β : Type} {f : α → Option β} {h : α → β} : ∀ {l : List α}, (∀ x ∈ l, f x = some (h x)) → l.mapM f = some (l.map h)
 | [], _ => by simp
 | x :: l, k => by
  rw [List.mapM_cons, k x (by simp), mapM_all fun y hy => k y (by simp [hy])]
  rfl
theorem mapM_fails {α β : Type} {f : α → Option β} : ∀ {l : List α} {x : α}, x ∈ l → f x = none → l.mapM f = none
 | a :: l, x, hx, k => by
  rw [List.mapM_cons]
  rcases List.mem_cons.1 hx with rfl | hx
  ·rw [k]; rfl
  ·rw [mapM_fails hx k]
   cases f a <;> rfl
theorem T.subst_sym {f : Int → Option T} {x : T} (h : x.tm.kind = 2) : (x.subst f).tm.kind = 2 := by
 cases x <;> first | exact h | (cases h)
theorem Gl.with_put {bs : List B} (hb : ∀ b ∈ bs, b.to.ok) : ∀ g : Gl, g.Sh → ((g.put (sub bs)).Sh ∧ g.withO (fits bs) = some (g.put (sub bs))) ∨ (¬ (g.put (sub bs)).Sh ∧ g.withO (fits bs) = none) :=
 Gl.ind fun g ih h => by
  have w_ := lift_ok h.top.tm
  obtain ⟨xs, hxs, hok⟩ := w_
  have e1 : (g.put (sub bs)).terms = (xs.map (T.subst (sub bs))).map T.tm := by
   rw [Gl.put_terms, hxs, List.map_map, List.map_map]
   exact List.map_congr_left fun x _ => by simp [T.toT_tm]
  have e2 := Gl.put_goals (sub bs) g
  have e3 := Gl.withO_eq (fits bs) g
  rw [hxs, toTs_tm] at e3
  by_cases hf : ∀ x ∈ xs, (x.subst (sub bs)).size ≤ 5000
  ·have m1 : xs.mapM (fits bs) = some (xs.map (T.subst (sub bs))) := mapM_all fun x hx => by rw [fits, fit, if_pos (hf x hx)]
   rw [m1] at e3
   by_cases hg : ∀ y ∈ g.goals, (y.put (sub bs)).Sh
   ·have m2 : g.goals.mapM (Gl.withO (fits bs)) = some (g.goals.map (Gl.put (sub bs))) := mapM_all fun y hy => by
     rcases ih y hy (h.sub y hy) with k | k
     ·exact k.2
     ·exact absurd (hg y hy) k.1
    rw [m2] at e3
    refine .inl ⟨.mk ?_ ?_, ?_⟩
    ·have hl : (g.put (sub bs)).terms.length = g.terms.length := by rw [Gl.put_terms, List.length_map]
     have hgl : (g.put (sub bs)).goals.length = g.goals.length := by rw [e2, List.length_map]
     have tp := h.top
     have hk := Gl.put_kind (sub bs) g
     refine ⟨fun t ht => ?_, hk ▸ tp.k0, hk ▸ tp.k1, ?_, ?_, ?_, ?_, ?_, ?_, ?_, ?_, ?_, ?_, ?_⟩
     ·rw [e1] at ht
      have w_ := List.mem_map.1 ht
      obtain ⟨y, hy, rfl⟩ := w_
      have w_ := List.mem_map.1 hy
      obtain ⟨x, hx, rfl⟩ := w_
      exact T.ok.tm ⟨T.good_subst (fun n y h => (sub_ok hb h).1) (hok x hx).1, hf x hx⟩
     ·rw [hk, Gl.put_name]; exact tp.nm
     ·rw [hk, Gl.put_name]; exact tp.rel
     ·rw [hk, hl]; exact tp.ln9
     ·rw [hk, hl]; exact tp.ln2
     ·rw [hk, hl]; exact tp.ln1
     ·rw [hk, hl]; exact tp.ln0
     ·rw [hgl]; exact tp.gl
     ·rw [hk, hgl]; exact tp.gl0
     ·rw [hk, hgl]; exact tp.gl1
     ·rw [hk, e1]
      intro h6 a ha
      have h7 := tp.sy h6
      rw [hxs] at h7
      rw [List.map_map, List.getElem?_map] at ha
      cases hx : xs[0]? with
      | none => rw [hx] at ha; cases ha
      | some x =>
       rw [hx] at ha
       cases ha
       exact T.subst_sym (h7 x.tm (by simp [hx]))
     ·rw [hk, e2]
      intro h10 b hb'
      rw [List.getElem?_map] at hb'
      cases hx : g.goals[0]? with
      | none => rw [hx] at hb'; cases hb'
      | some x =>
       rw [hx] at hb'
       cases hb'
       rw [Gl.put_kind]
       exact tp.cl h10 x hx
    ·rw [e2]
     intro y hy
     have w_ := List.mem_map.1 hy
     obtain ⟨x, hx, rfl⟩ := w_
     exact hg x hx
    ·rw [e3]
     show some _ = some _
     rw [← e1, ← e2, ← Gl.put_kind (sub bs) g, ← Gl.put_name (sub bs) g]
     cases g.put (sub bs); rfl
   ·simp only [not_forall] at hg
    obtain ⟨y, hy, hny⟩ := hg
    refine .inr ⟨fun k => hny (k.sub _ (by rw [e2]; exact List.mem_map.2 ⟨y, hy, rfl⟩)), ?_⟩
    rw [e3, mapM_fails hy (by
     rcases ih y hy (h.sub y hy) with k | k
     ·exact absurd k.1 hny
     ·exact k.2)]
  ·simp only [not_forall] at hf
   obtain ⟨x, hx, hnx⟩ := hf
   refine .inr ⟨fun k => hnx ?_, ?_⟩
   ·have h1 := k.top.tm (x.subst (sub bs)).tm (by rw [e1]; exact List.mem_map.2 ⟨_, List.mem_map.2 ⟨x, hx, rfl⟩, rfl⟩)
    have h2 := h1.2
    rwa [T.cnt_tm] at h2
   ·rw [e3, mapM_fails hx (by rw [fits, fit, if_neg hnx])]
section
variable {μ : Mem}
theorem l13Put_spec {bs : List B} {b0 : Option Addr} {c0 : Nat} : ∀ (g : Gl) {μ : Mem} {v : Value}, RepV μ g.d v → g.Sh → Sl μ 5 b0 bs.length ((bs.map B.bd).map Bd.d) → Spec Tryz.prog 65 [v, .slice b0 bs.length c0] μ fun v μ' => RepV μ' (g.put (sub bs)).d v :=
 Gl.ind fun g ih μ v hv hS hsl => by
  have w_ := Gl.inv hv
  obtain ⟨p, rfl, hts, hgs⟩ := w_
  have w_ := lift_ok hS.top.tm
  obtain ⟨xs, hxs, hok⟩ := w_
  have hg8 := hS.top.gl
  have hx4 : xs.length ≤ 4 := by
   have T := hS.top
   have e9 := T.ln9; have e2 := T.ln2; have e1 := T.ln1; have e0 := T.ln0; have k0 := T.k0; have k1 := T.k1
   have : g.terms.length = xs.length := by rw [hxs, List.length_map]
   omega
  have hput : (g.put (sub bs)).d = .st [.i g.kind, .s g.name, .sl 4 (((xs.map (T.subst (sub bs))).map T.tm).map Tm.d), .sl 4 ((g.goals.map (Gl.put (sub bs))).map Gl.d)] := by
   rw [Gl.d_eq, Gl.put_kind, Gl.put_name, Gl.put_goals, Gl.put_terms, hxs]
   simp [List.map_map, Function.comp_def, T.toT_tm]
  rw [hxs, List.length_map] at hts ⊢
  refine Spec.mk Tryz.func65 (by kernel_rfl) ?_
  intro r1 r2 r3
  refine loop_nil (fun p : Nat × Option Nat × Nat × List Value × Mem => p.1 ≤ xs.length ∧ μ.Le p.2.2.2.2 ∧ Rows p.2.2.2.2 4 ((((xs.take p.1).map (T.subst (sub bs))).map T.tm).map Tm.d) p.2.2.2.1)
   (fun (i, b, c, ys, μ') => ⟨[(1, .val (.slice b0 bs.length c0)), (2, .loc 0 r1 0), (4, .loc 1 r2 0), (5, .loc 2 r3 0), (16, .val (.slice p.1.1 xs.length p.1.2)), (17, .val (.int .i64 xs.length)), (18, .val (.int .i64 i))],
    [(0, some (.cells r1 [.val (.int .i64 g.kind), .val (.string g.name), .val (.slice p.1.1 xs.length p.1.2), .val (.slice p.2.1 g.goals.length p.2.2)] 30)), (1, some (.cells r2 [.val (.int .i64 0), .val (.string ⟨#[]⟩), .val (.slice none 0 0), .val (.slice none 0 0)] 30)), (2, some (.cells r3 [.val (.int .i64 g.kind), .val (.string g.name), .row 3 b ys.length c, .val (.slice none 0 0)] 30)), (3, some (.row b c 50 4 ys))], 4, μ', Mem.nil⟩) (fun p => xs.length - p.1)
   (0, none, 0, [], μ) ⟨by simp, Mem.Le.refl _, .nil⟩ (fun (_, _, _, _, _) => ⟨rfl, rfl⟩) ⟨⟨⟨_, rfl, .inl rfl⟩, ⟨_, rfl, .inl rfl⟩, ⟨_, rfl, .inl rfl⟩, ⟨_, rfl, .inl rfl⟩, ⟨_, rfl, .inl rfl⟩, ⟨_, rfl, .inl rfl⟩, ⟨_, rfl, .inl rfl⟩, trivial⟩, ⟨.inl rfl, .inl rfl, .inr (.inr ⟨_, _, _, _, rfl, rfl, .inl rfl, .inl rfl, .inr ⟨3, rfl, rfl, Nat.le_refl _⟩, .inl rfl, trivial⟩), .inr (.inl ⟨_, _, rfl, Nat.le_refl _⟩), trivial⟩, rfl, rfl⟩ ?_
  rintro ⟨i, b, c, ys, μ'⟩ ⟨hi, hle, hrows⟩
  dsimp only at hi hle hrows
  have hlen := hrows.len
  simp only [List.length_map, List.length_take] at hlen
  refine ifd (fun h => ?_) (fun h => ?_)
  ·have w_ := aSo (l := xs) (i := i) (by omega)
   obtain ⟨t, ht⟩ := w_
   have ht' : (xs.map T.tm)[i]? = some t.tm := by simp [ht]
   have w_ := Tm.elem (hts.mono hle) ht'
   obtain ⟨ad, p3, hel, hr⟩ := w_
   refine eIn hel ?_
   intro r4
   refine cPl (l04Put_spec t (hsl.mono hle) hr) fun v' μ'' hle2 hR => ?_
   have w_ := Tm.invV hR
   obtain ⟨q, rfl⟩ := w_
   intro r5
   refine gIn ?_ ?_ fun b' c' _ => ?_
   ·show (ys.length + 1) * 56 ≤ _; omega
   ·exact Nat.le_trans (m := 100000000) (show ys.length + 1 ≤ _ by omega) (by decide)
   refine num64 (by omega) (by omega) ⟨(i + 1, b', c', _, μ''), ⟨by dsimp only; omega, hle.trans hle2, ?_⟩, by dsimp only; omega, ⟨⟨rfl, rfl, rfl, rfl, rfl, rfl, rfl, trivial⟩, ⟨rfl, rfl, rfl, rfl, trivial⟩, rfl, rfl⟩⟩
   dsimp only
   rw [List.take_add_one, ht, Option.toList_some]
   simp only [List.map_append, List.map_cons, List.map_nil]
   exact (hrows.mono hle2).append (Rows.one hR (Tm.d_n _))
  ·obtain rfl : i = xs.length := by omega
   rw [List.take_length] at hrows
   have hgs1 := hgs.mono hle
   refine loop_nil (fun p : Nat × Option Nat × Nat × List Value × Mem => p.1 ≤ g.goals.length ∧ μ'.Le p.2.2.2.2 ∧ Rows p.2.2.2.2 4 (((g.goals.take p.1).map (Gl.put (sub bs))).map Gl.d) p.2.2.2.1)
    (fun (i, b2, c2, zs, μ'') => ⟨[(1, .val (.slice b0 bs.length c0)), (4, .loc 1 r2 0), (5, .loc 2 r3 0), (32, .val (.slice p.2.1 g.goals.length p.2.2)), (33, .val (.int .i64 g.goals.length)), (34, .val (.int .i64 i))],
     [(1, some (.cells r2 [.val (.int .i64 0), .val (.string ⟨#[]⟩), .val (.slice none 0 0), .val (.slice none 0 0)] 30)), (2, some (.cells r3 [.val (.int .i64 g.kind), .val (.string g.name), .row 3 b ys.length c, .row 4 b2 zs.length c2] 30)), (3, some (.row b c 50 4 ys)), (4, some (.row b2 c2 30 4 zs))], 5, μ'', Mem.nil⟩) (fun p => g.goals.length - p.1)
    (0, none, 0, [], μ') ⟨by simp, Mem.Le.refl _, .nil⟩ (fun (_, _, _, _, _) => ⟨rfl, rfl⟩) ⟨⟨⟨_, rfl, .inl rfl⟩, ⟨_, rfl, .inl rfl⟩, ⟨_, rfl, .inl rfl⟩, ⟨_, rfl, .inl rfl⟩, ⟨_, rfl, .inl rfl⟩, ⟨_, rfl, .inl rfl⟩, trivial⟩, ⟨.inl rfl, .inr (.inr ⟨_, _, _, _, rfl, rfl, .inl rfl, .inl rfl, .inl rfl, .inr ⟨4, rfl, rfl, Nat.le_refl _⟩, trivial⟩), .inl rfl, .inr (.inl ⟨_, _, rfl, Nat.le_refl _⟩), trivial⟩, rfl, rfl⟩ ?_
   rintro ⟨i, b2, c2, zs, μ''⟩ ⟨hi, hle3, hrows2⟩
   dsimp only at hi hle3 hrows2
   have hlen2 := hrows2.len
   simp only [List.length_map, List.length_take] at hlen2
   refine ifd (fun h => ?_) (fun h => ?_)
   ·have w_ := aSo (l := g.goals) (i := i) (by omega)
    obtain ⟨t, ht⟩ := w_
    have w_ := Gl.elem (hgs1.mono hle3) ht
    obtain ⟨ad, p3, hel, hr⟩ := w_
    refine eIn hel ?_
    intro r4
    refine cPl (ih t (mAt ht) hr (hS.sub t (mAt ht)) ((hsl.mono hle).mono hle3)) fun v' μ3 hle4 hR => ?_
    have w_ := Gl.invV hR
    obtain ⟨q, rfl⟩ := w_
    intro r5
    refine gIn ?_ ?_ fun b' c' _ => ?_
    ·show (zs.length + 1) * 72 ≤ _; omega
    ·exact Nat.le_trans (m := 100000000) (show zs.length + 1 ≤ _ by omega) (by decide)
    refine num64 (by omega) (by omega) ⟨(i + 1, b', c', _, μ3), ⟨by dsimp only; omega, hle3.trans hle4, ?_⟩, by dsimp only; omega, ⟨⟨rfl, rfl, rfl, rfl, rfl, rfl, trivial⟩, ⟨rfl, rfl, rfl, rfl, trivial⟩, rfl, rfl⟩⟩
    dsimp only
    rw [List.take_add_one, ht, Option.toList_some]
    simp only [List.map_append, List.map_cons, List.map_nil]
    exact (hrows2.mono hle4).append (Rows.one hR (Gl.d_n _))
   ·obtain rfl : i = g.goals.length := by omega
    rw [List.take_length] at hrows2
    refine rFz [3, 4] fun μ2 hle5 hno hrow => fun μ3 hle6 hno2 hrow2 => .inl ?_
    rw [hput]
    exact ⟨_, rfl, RepS.int (RepS.str (RepS.cons1 ((Rows.sl hrow (((hrows.mono hle3)).mono hle5) (Nat.le_trans (m := 100000000) (by omega) (by decide))).mono hle6) (RepS.last (Rows.sl hrow2 ((hrows2.mono hle5).mono hle6) (Nat.le_trans (m := 100000000) (by omega) (by decide))))))⟩
end
end Go.Vx
namespace Go.Vx
open Go.Proofs Classical
section
variable {μ : Mem}
theorem apartB {h : Mem} {r r' cap es : Nat} {ty : TypeId} {ys : List Value} (hb : RowO h r cap ty es ys) (hap : Apart μ h) (hor : r' = r ∨ (h r' = none ∧ μ r' = none)) : μ r' = none := by
 rcases hor with rfl | ⟨_, h2⟩
 ·obtain ⟨cs, h1, _⟩ := hb
  cases e : μ r' with
  | none => rfl
  | some o => have := hap r' (by simp [e]); rw [h1] at this; cases this
 ·exact h2
end
end Go.Vx
namespace Go.Vx
open Go.Proofs Classical
section
variable {α : Type} {c : α → α → Int}
theorem Asc3.uniq (h : Ord3 c) {l m : List α} (hl : Asc3 c l) (hm : Asc3 c m) (e : ∀ x, x ∈ l ↔ x ∈ m) : l = m := by
 have hp : l.Perm m := (List.perm_ext_iff_of_nodup (hl.nodup h) (hm.nodup h)).2 e
 refine List.Perm.eq_of_pairwise (le := fun a b => c a b < 0) (fun a b _ _ h1 h2 => ?_) hl hm hp
 have := (h.anti a b).1 h1
 omega
end
end Go.Vx
namespace Go.Vx
open Go.Proofs Classical
theorem Low.arg {x y : T} (h : Low x) (hy : y ∈ x.args) : Low y := fun n hn => by
 cases x with
 | pair a b =>
  simp only [T.args, List.mem_cons, List.not_mem_nil, or_false] at hy
  refine h n ?_
  rw [T.vars, List.mem_append]
  rcases hy with rfl | rfl
  ·exact .inl hn
  ·exact .inr hn
 | _ => simp [T.args] at hy
section
variable {μ : Mem}
end
end Go.Vx
namespace Go.Vx
open Go.Proofs Classical
section
variable {μ : Mem}
theorem spec_IsGround_any (t : Tm) {v : Value} (hv : RepV μ t.d v) (hw : t.d.wd) : Gives Tryz.prog 61 [v] μ (.bool (decide (GndT t))) := by
 by_cases h : t.Ok
 ·obtain ⟨x, hx, rfl⟩ := h.lift
  have := spec_IsGround_spec x hv hx hw
  have e : (decide (x.vars = [])) = decide (GndT x.tm) := decide_eq_decide.2 ⟨fun k => ⟨h, by rw [T.toT_tm]; exact k⟩, fun k => by have := k.2; rwa [T.toT_tm] at this⟩
  rwa [e] at this
 ·have w_ := Tm.invV hv
  obtain ⟨p, rfl⟩ := w_
  refine Spec.mk Tryz.func61 (by kernel_rfl) ?_
  intro r
  refine cGv (spec_TermOk_spec t hv hw) ?_
  refine ifd (fun k => absurd k h) (fun _ => ?_)
  exact rGv (by rw [decide_eq_false fun k => h k.1]) rfl
theorem impl_IsGround_any (t : Tm) {v : Value} (hv : RepV μ t.d v) : Gives Tryz.prog 69 [v] μ (.bool (decide (GndT t))) := by
 have hv0 := hv
 have w_ := Tm.invV hv
 obtain ⟨p, rfl⟩ := w_
 refine Spec.forget (Spec.mk Tryz.func69 (by kernel_rfl) ?_)
 intro r
 refine cGv (impl_TermOk_spec t hv0) ?_
 refine ifd (fun h => ?_) (fun h => ?_)
 ·obtain ⟨x, hx, rfl⟩ := h.lift
  refine cGv (isGround_spec x hv0) ?_
  refine rPl (isI ⟨fun k => ⟨h, by rw [T.toT_tm]; exact k⟩, fun k => by have := k.2; rwa [T.toT_tm] at this⟩)
 ·exact rPl (isF fun k => h k.1)
end
end Go.Vx
namespace Go.Vx
open Go.Proofs Classical
theorem valsB_len (vs : List T) : (valsB vs).length = vs.length := by simp [valsB]
theorem valsB_at {vs : List T} {i : Nat} {x : T} (h : vs[i]? = some x) : (valsB vs)[i]? = some ⟨(i : Int), x⟩ := by simp [valsB, h]
theorem valsB_take (vs : List T) (i : Nat) : (valsB vs).take i = valsB (vs.take i) := by
 refine List.ext_getElem? fun k => ?_
 simp only [valsB, List.getElem?_take, List.getElem?_map, List.getElem?_zipIdx]
 split <;> simp
section
variable {μ : Mem}
end
end Go.Vx
namespace Go.Vx
open Go.Proofs Classical
section
variable {μ : Mem}
theorem relAt_get {p : Pg} {s : ByteArray} (h : 0 ≤ relAt p s) : ∃ (k : Nat) (r : Rl), relAt p s = (k : Int) ∧ p.rels[k]? = some r ∧ r.name = s := by
 have w_ := relFrom_some (l := p.rels) (i := 0) (s := s) h
 obtain ⟨j, r, h1, h2, h3⟩ := w_
 exact ⟨j, r, by rw [relAt, h1]; congr 1; omega, h2, h3⟩
end
end Go.Vx
namespace Go.Vx
open Go.Proofs Classical
theorem erase_take {α : Type} {xs : List α} {i k : Nat} {x : α} (hx : xs[i]? = some x) : (xs.take (i + 1)).eraseIdx k = (xs.take i).eraseIdx k ++ (if i = k then [] else [x]) := by
 have hi := (List.getElem?_eq_some_iff.1 hx).1
 have hl : (xs.take i).length = i := by rw [List.length_take]; omega
 rw [List.take_add_one, hx, Option.toList_some]
 rcases Nat.lt_or_ge k i with h | h
 ·rw [List.eraseIdx_append_of_lt_length (by omega), if_neg (by omega)]
 ·have e1 : (xs.take i).eraseIdx k = xs.take i := List.eraseIdx_of_length_le (by omega)
  rw [List.eraseIdx_append_of_length_le (by omega), hl, e1]
  by_cases e : i = k
  ·rw [if_pos e, e, Nat.sub_self]; rfl
  ·rw [if_neg e, List.eraseIdx_of_length_le (by simp; omega)]
section
variable {μ : Mem}
theorem without_spec {xs : List T} {base : Option Addr} {cap k : Nat} (hsl : Sl μ 4 base xs.length ((xs.map T.tm).map Tm.d)) (hn : xs.length ≤ 1000000) :
  Spec Tryz.prog 136 [.slice base xs.length cap, .int .i64 k] μ fun v μ' => Fresh μ μ' (.sl 4 (((xs.eraseIdx k).map T.tm).map Tm.d)) v := by
 refine Spec.mk Tryz.func136 (by kernel_rfl) ?_
 intro r8
 refine lIn (fun p : Nat × Option Nat × Nat × List Value × Mem => p.1 ≤ xs.length ∧ μ.Le p.2.2.2.2 ∧ Grown 4 μ p.2.2.2.2 ((((xs.take p.1).eraseIdx k).map T.tm).map Tm.d) p.2.2.2.1)
  (fun (i, b, c, ys, μ') => ⟨[(1, .val (.int .i64 k)), (5, .row 0 b ys.length c), (9, .val (.slice base xs.length cap)), (10, .val (.int .i64 xs.length)), (11, .val (.int .i64 i))], [(0, some (.row b c 50 4 ys))], 1, μ', Mem.nil⟩) (fun p => xs.length - p.1)
  (0, some r8, 0, [], μ) ⟨Nat.zero_le _, Mem.Le.refl _, Grown.nil _ _ _⟩ (fun (_, _, _, _, _) => ⟨rfl, rfl⟩) ⟨⟨rfl, rfl, rfl, rfl, rfl, trivial⟩, ⟨rfl, trivial⟩, rfl, rfl⟩ ?_
 rintro ⟨i, b, c, ys, μ'⟩ ⟨hi, hle, hrows⟩
 dsimp only at hi hle hrows
 have hlen : ys.length ≤ xs.length := by
  have h1 := hrows.len
  have h2 := List.length_eraseIdx_le (xs.take i) k
  simp only [List.length_map, List.length_take] at h1 h2
  omega
 refine ifd (fun hlt => ?_) (fun hlt => ?_)
 ·have w_ := aSo (l := xs) (i := i) (by omega)
  obtain ⟨x, hx⟩ := w_
  have w_ := T.elemL (hsl.mono hle) hx
  obtain ⟨ad, p, hel, hr⟩ := w_
  have hnext := erase_take (k := k) hx
  refine eIn hel ?_
  intro r7
  refine ifnd (fun hne => ?_) (fun he => ?_)
  ·refine cPl (copyTerm_spec x hr) fun v1 μ1 hle1 hR => ?_
   have w_ := Tm.invV hR.rep
   obtain ⟨q, rfl⟩ := w_
   intro r22
   refine gIn ?_ ?_ fun b' c' _ => ?_
   ·show (ys.length + 1) * 56 ≤ _; omega
   ·exact Nat.le_trans (m := 100000000) (show ys.length + 1 ≤ _ by omega) (by decide)
   refine num64 (by omega) (by omega) ⟨(i + 1, b', c', _, μ1), ⟨by dsimp only; omega, hle.trans hle1, ?_⟩, by dsimp only; omega, ⟨⟨rfl, rfl, rfl, rfl, rfl, trivial⟩, ⟨rfl, trivial⟩, rfl, rfl⟩⟩
   dsimp only
   rw [hnext, if_neg (by omega)]
   simp only [List.map_append, List.map_cons, List.map_nil]
   exact hrows.snoc hle hR hle1 (Tm.d_n _)
  ·refine num64 (by omega) (by omega) ⟨(i + 1, b, c, ys, μ'), ⟨by dsimp only; omega, hle, ?_⟩, by dsimp only; omega, ⟨⟨rfl, rfl, rfl, rfl, rfl, trivial⟩, ⟨rfl, trivial⟩, rfl, rfl⟩⟩
   dsimp only
   rw [hnext, if_pos (by omega), List.append_nil]
   exact hrows
 ·obtain rfl : i = xs.length := by omega
  rw [List.take_length] at hrows
  refine rFz [0] fun μ2 hle2 hno hrow => .inl ?_
  exact hrows.fresh hle hle2 hno hrow (Nat.le_trans (m := 1000000) (by omega) (by decide))
set_option maxHeartbeats 1000000 in
theorem l34Without_spec {xs : List T} {v : Value} {k : Nat} (h : RepV μ (.sl 4 ((xs.map T.tm).map Tm.d)) v) (hk : k < xs.length) (hn : xs.length ≤ 1000000) :
  Spec Tryz.prog 125 [v, .int .i64 k] μ fun v μ' => RepV μ' (.sl 4 (((xs.eraseIdx k).map T.tm).map Tm.d)) v := by
 have w_ := Rep.sl h
 obtain ⟨b, c, rfl, hs⟩ := w_
 rw [List.length_map, List.length_map] at hs h ⊢
 have w_ := Rep.src h
 obtain ⟨vs, hrows, hvs, hcap, hsrc⟩ := w_
 refine Spec.mk Tryz.func125 (by kernel_rfl) ?_
 refine cut_intro 0 k rfl rfl (by omega) (by omega) ?_
 refine num64 (by omega) (by omega) ?_
 refine cut_intro (k + 1) xs.length rfl rfl (by omega) (by omega) ?_
 intro r5
 refine src_intro _ (hsrc 0 k (by omega) (by omega)) ?_
 refine gIn ?_ ?_ fun b1 c1 _ => ?_
 ·show (0 + _) * 56 ≤ _; simp; omega
 ·exact Nat.le_trans (m := 2000000000) (by simp; omega) (by decide)
 refine src_intro _ (hsrc (k + 1) xs.length (by omega) (Nat.le_refl _)) ?_
 refine gIn ?_ ?_ fun b2 c2 _ => ?_
 ·show (_ + _) * 56 ≤ _; simp; omega
 ·exact Nat.le_trans (m := 3000000000) (by simp; omega) (by decide)
 have hr2 := (hrows.take k).append (hrows.drop (k + 1))
 have ev : (([] : List Value) ++ (vs.drop 0).take (k - 0) ++ (vs.drop (k + 1)).take (xs.length - (k + 1))) = vs.take k ++ vs.drop (k + 1) := by
  simp
  rw [List.take_of_length_le (by simp; omega)]
 have e2 : (((xs.eraseIdx k).map T.tm).map Tm.d) = ((xs.map T.tm).map Tm.d).take k ++ ((xs.map T.tm).map Tm.d).drop (k + 1) := by rw [List.eraseIdx_eq_take_drop_succ]; simp
 refine rFz [0] fun μ2 hle2 hno2 hrow2 => .inl ?_
 rw [ev] at hrow2
 have := Rows.sl hrow2 (hr2.mono hle2) (Nat.le_trans (m := 3000000000) (by simp; omega) (by decide))
 rw [← e2] at this
 rw [ev]
 exact this
end
end Go.Vx
namespace Go.Vx
open Go.Proofs Classical
section
variable {μ : Mem}
theorem Gl.termsW {g : Gl} {a b ts gs : Value} (h : RepV μ g.d (.agg #[a, b, ts, gs])) : RepV μ (.sl 4 (g.terms.map Tm.d)) ts := by
 have h2 : ∃ cs, Value.agg #[a, b, ts, gs] = .agg (List.toArray cs) ∧ Rep μ g.d cs := by rw [Gl.d_eq] at h ⊢; exact h
 obtain ⟨cs, e, h3⟩ := h2
 have e : cs = [a, b, ts, gs] := by
  injection e with e
  have := congrArg Array.toList e
  simpa using this.symm
 subst e
 rw [Gl.d_eq] at h3
 obtain ⟨a0, t0, e0, h0, h3⟩ := h3
 have h0 : a0 = [.int .i64 g.kind] := h0
 subst h0
 obtain ⟨rfl, rfl⟩ := List.cons.inj e0
 obtain ⟨a1, t1, e1, h1, h3⟩ := h3
 have h1 : a1 = [.string g.name] := h1
 subst h1
 obtain ⟨rfl, rfl⟩ := List.cons.inj e1
 obtain ⟨a2, t2, e2, h2, h3⟩ := h3
 have w_ := one_of (Rep.len _ _ h2)
 obtain ⟨v2, rfl⟩ := w_
 obtain ⟨rfl, _⟩ := List.cons.inj e2
 exact h2
set_option maxHeartbeats 1000000 in
theorem specialCalls_spec {nm sp : ByteArray} {k : Nat} {t : T} : ∀ (g : Gl) {μ : Mem} {v w : Value}, RepV μ g.d v → g.Mild → g.Long nm k → RepV μ t.tm.d w → Spec Tryz.prog 76 [v, .string nm, .int .i64 k, w, .string sp] μ fun v μ' => RepV μ' (g.fold nm k t sp).d v :=
 Gl.ind fun g ih μ v w hv hS hlong hw => by
  have hv0 := hv
  have w_ := Gl.inv hv
  obtain ⟨p, rfl, hts, hgs⟩ := w_
  have w_ := lift_is hS.top.1
  obtain ⟨xs, hxs⟩ := w_
  have hg8 := hS.top.2.2
  have hx4 : xs.length ≤ 100000 := by
   have h := hS.top.2.1
   rwa [hxs, List.length_map] at h
  have hlen : g.terms.length = xs.length := by rw [hxs, List.length_map]
  have hw0 := hw
  have w_ := Tm.invV hw
  obtain ⟨qw, rfl⟩ := w_
  refine Spec.mk Tryz.func76 (by kernel_rfl) ?_
  intro r5 r8 r10
  refine ifd (fun h10 => ?_) (fun h10 => ?_)
  ·refine rPl ?_
   rw [Gl.fold_eq, if_pos h10]
   exact hv0
  have hfe := Gl.fold_eq nm k t sp g
  rw [if_neg h10] at hfe
  have hnil : ∀ μ', RepV μ' (.sl 4 (([] : List Gl).map Gl.d)) (.slice none 0 0) := fun μ' => ⟨none, 0, rfl, ⟨Nat.zero_le _, Nat.zero_le _⟩, (fun _ h => nomatch h), .inl rfl⟩
  refine ifd (fun h9 => ?_) (fun h9 => ?_)
  ·refine ifd (fun hn => ?_) (fun hn => ?_)
   ·have hkl := hlong.top h9 hn
    have w_ := aSo (l := xs) (i := k) (by omega)
    obtain ⟨y, hy⟩ := w_
    have hgk : g.terms[k]? = some y.tm := by rw [hxs, List.getElem?_map, hy]; rfl
    have hts2 := hts
    rw [hxs, List.length_map] at hts2
    have w_ := T.elemL hts2 hy
    obtain ⟨ad, py, hel, hry⟩ := w_
    rw [← hlen] at hel
    refine eIn hel ?_
    refine cGv (equalTerms_spec y t hry hw0) ?_
    refine ifd (fun he => ?_) (fun he => ?_)
    ·rw [if_pos ⟨h9, hn, by rw [hgk, he]⟩] at hfe
     have hwo := without_spec (cap := p.1.2) (k := k) hts2 (by omega)
     rw [← hlen] at hwo
     refine cPl hwo fun v5 μ5 hle5 hR5 => ?_
     have w_ := Rep.sl hR5.rep
     obtain ⟨b5, c5, rfl, -⟩ := w_
     refine rPl ?_
     rw [hfe, Gl.d_eq]
     have e : (Gl.mk 9 sp (g.terms.eraseIdx k) []).terms = ((xs.eraseIdx k).map T.tm) := by
      show g.terms.eraseIdx k = _
      rw [hxs, List.eraseIdx_eq_take_drop_succ, List.eraseIdx_eq_take_drop_succ]; simp
     rw [e]
     exact ⟨_, rfl, RepS.int (RepS.str (RepS.cons1 hR5.rep (RepS.last (hnil _))))⟩
    ·rw [if_neg (fun q => he (T.tm_inj (Option.some.inj (hgk.symm.trans q.2.2)))) ] at hfe
     intro r11
     refine loop_nil (fun p : Nat × Option Nat × Nat × List Value × Mem => p.1 ≤ g.goals.length ∧ μ.Le p.2.2.2.2 ∧ Rows p.2.2.2.2 4 (((g.goals.take p.1).map (Gl.fold nm k t sp)).map Gl.d) p.2.2.2.1)
      (fun (i, b, c, us, μ') => ⟨[(1, .val (.string nm)), (2, .val (.int .i64 k)), (4, .val (.string sp)), (8, .loc 1 r8 0), (10, .loc 2 r10 0), (11, .loc 3 r11 0), (50, .val (.slice p.2.1 g.goals.length p.2.2)), (51, .val (.int .i64 g.goals.length)), (52, .val (.int .i64 i))],
       [(1, some (.cells r8 [.val (.int .i64 t.tm.kind), .val (.int .i64 t.tm.num), .val (.string t.tm.name), .val (.slice qw.1 t.tm.args.length qw.2)] 50)), (2, some (.cells r10 [.val (.int .i64 0), .val (.string ⟨#[]⟩), .val (.slice none 0 0), .val (.slice none 0 0)] 30)), (3, some (.cells r11 [.val (.int .i64 g.kind), .val (.string g.name), .val (.slice p.1.1 g.terms.length p.1.2), .row 4 b us.length c] 30)), (4, some (.row b c 30 4 us))], 5, μ', Mem.nil⟩) (fun p => g.goals.length - p.1)
      (0, none, 0, [], μ) ⟨Nat.zero_le _, Mem.Le.refl _, .nil⟩ (fun (_, _, _, _, _) => ⟨rfl, rfl⟩) ⟨⟨⟨_, rfl, .inl rfl⟩, ⟨_, rfl, .inl rfl⟩, ⟨_, rfl, .inl rfl⟩, ⟨_, rfl, .inl rfl⟩, ⟨_, rfl, .inl rfl⟩, ⟨_, rfl, .inl rfl⟩, ⟨_, rfl, .inl rfl⟩, ⟨_, rfl, .inl rfl⟩, ⟨_, rfl, .inl rfl⟩, trivial⟩, ⟨.inl rfl, .inl rfl, .inr (.inr ⟨_, _, _, _, rfl, rfl, .inl rfl, .inl rfl, .inl rfl, .inr ⟨4, rfl, rfl, Nat.le_refl _⟩, trivial⟩), .inr (.inl ⟨_, _, rfl, Nat.le_refl _⟩), trivial⟩, rfl, rfl⟩ ?_
     rintro ⟨i, b, c, us, μ'⟩ ⟨hi, hle, hrows⟩
     dsimp only at hi hle hrows
     have hul := hrows.len
     simp only [List.length_map, List.length_take] at hul
     refine ifd (fun hlt => ?_) (fun hlt => ?_)
     ·have w_ := aSo (l := g.goals) (i := i) (by omega)
      obtain ⟨x, hx⟩ := w_
      have w_ := Gl.elem (hgs.mono hle) hx
      obtain ⟨adx, p3, helx, hrx⟩ := w_
      refine eIn helx ?_
      intro r13
      refine cPl (ih x (mAt hx) hrx (hS.sub x (mAt hx)) (hlong.sub x (mAt hx)) (RepV.mono hle hw0)) fun v2 μ2 hle2 hR => ?_
      have w_ := Gl.invV hR
      obtain ⟨q, rfl⟩ := w_
      intro r25
      refine gIn ?_ ?_ fun b' c' _ => ?_
      ·show (us.length + 1) * 72 ≤ _; omega
      ·exact Nat.le_trans (m := 100000000) (show us.length + 1 ≤ _ by omega) (by decide)
      refine num64 (by omega) (by omega) ⟨(i + 1, b', c', _, μ2), ⟨by dsimp only; omega, hle.trans hle2, ?_⟩, by dsimp only; omega, ⟨⟨rfl, rfl, rfl, rfl, rfl, rfl, rfl, rfl, rfl, trivial⟩, ⟨rfl, rfl, rfl, rfl, trivial⟩, rfl, rfl⟩⟩
      dsimp only
      rw [List.take_add_one, hx, Option.toList_some]
      simp only [List.map_append, List.map_cons, List.map_nil]
      exact (hrows.mono hle2).append (Rows.one hR (Gl.d_n _))
     ·obtain rfl : i = g.goals.length := by omega
      rw [List.take_length] at hrows
      refine rFz [4] fun μ2 hle2 hno hrow => .inl ?_
      rw [hfe, Gl.d_eq]
      exact ⟨_, rfl, RepS.int (RepS.str (RepS.cons1 (RepV.mono (hle.trans hle2) (Gl.termsW hv0)) (RepS.last (Rows.sl hrow (hrows.mono hle2) (Nat.le_trans (m := 100000000) (by omega) (by decide))))))⟩
   ·rw [if_neg (fun q => hn q.2.1)] at hfe
    intro r11
    refine loop_nil (fun p : Nat × Option Nat × Nat × List Value × Mem => p.1 ≤ g.goals.length ∧ μ.Le p.2.2.2.2 ∧ Rows p.2.2.2.2 4 (((g.goals.take p.1).map (Gl.fold nm k t sp)).map Gl.d) p.2.2.2.1)
     (fun (i, b, c, us, μ') => ⟨[(1, .val (.string nm)), (2, .val (.int .i64 k)), (4, .val (.string sp)), (8, .loc 1 r8 0), (10, .loc 2 r10 0), (11, .loc 3 r11 0), (50, .val (.slice p.2.1 g.goals.length p.2.2)), (51, .val (.int .i64 g.goals.length)), (52, .val (.int .i64 i))],
      [(1, some (.cells r8 [.val (.int .i64 t.tm.kind), .val (.int .i64 t.tm.num), .val (.string t.tm.name), .val (.slice qw.1 t.tm.args.length qw.2)] 50)), (2, some (.cells r10 [.val (.int .i64 0), .val (.string ⟨#[]⟩), .val (.slice none 0 0), .val (.slice none 0 0)] 30)), (3, some (.cells r11 [.val (.int .i64 g.kind), .val (.string g.name), .val (.slice p.1.1 g.terms.length p.1.2), .row 4 b us.length c] 30)), (4, some (.row b c 30 4 us))], 5, μ', Mem.nil⟩) (fun p => g.goals.length - p.1)
     (0, none, 0, [], μ) ⟨Nat.zero_le _, Mem.Le.refl _, .nil⟩ (fun (_, _, _, _, _) => ⟨rfl, rfl⟩) ⟨⟨⟨_, rfl, .inl rfl⟩, ⟨_, rfl, .inl rfl⟩, ⟨_, rfl, .inl rfl⟩, ⟨_, rfl, .inl rfl⟩, ⟨_, rfl, .inl rfl⟩, ⟨_, rfl, .inl rfl⟩, ⟨_, rfl, .inl rfl⟩, ⟨_, rfl, .inl rfl⟩, ⟨_, rfl, .inl rfl⟩, trivial⟩, ⟨.inl rfl, .inl rfl, .inr (.inr ⟨_, _, _, _, rfl, rfl, .inl rfl, .inl rfl, .inl rfl, .inr ⟨4, rfl, rfl, Nat.le_refl _⟩, trivial⟩), .inr (.inl ⟨_, _, rfl, Nat.le_refl _⟩), trivial⟩, rfl, rfl⟩ ?_
    rintro ⟨i, b, c, us, μ'⟩ ⟨hi, hle, hrows⟩
    dsimp only at hi hle hrows
    have hul := hrows.len
    simp only [List.length_map, List.length_take] at hul
    refine ifd (fun hlt => ?_) (fun hlt => ?_)
    ·have w_ := aSo (l := g.goals) (i := i) (by omega)
     obtain ⟨x, hx⟩ := w_
     have w_ := Gl.elem (hgs.mono hle) hx
     obtain ⟨adx, p3, helx, hrx⟩ := w_
     refine eIn helx ?_
     intro r13
     refine cPl (ih x (mAt hx) hrx (hS.sub x (mAt hx)) (hlong.sub x (mAt hx)) (RepV.mono hle hw0)) fun v2 μ2 hle2 hR => ?_
     have w_ := Gl.invV hR
     obtain ⟨q, rfl⟩ := w_
     intro r25
     refine gIn ?_ ?_ fun b' c' _ => ?_
     ·show (us.length + 1) * 72 ≤ _; omega
     ·exact Nat.le_trans (m := 100000000) (show us.length + 1 ≤ _ by omega) (by decide)
     refine num64 (by omega) (by omega) ⟨(i + 1, b', c', _, μ2), ⟨by dsimp only; omega, hle.trans hle2, ?_⟩, by dsimp only; omega, ⟨⟨rfl, rfl, rfl, rfl, rfl, rfl, rfl, rfl, rfl, trivial⟩, ⟨rfl, rfl, rfl, rfl, trivial⟩, rfl, rfl⟩⟩
     dsimp only
     rw [List.take_add_one, hx, Option.toList_some]
     simp only [List.map_append, List.map_cons, List.map_nil]
     exact (hrows.mono hle2).append (Rows.one hR (Gl.d_n _))
    ·obtain rfl : i = g.goals.length := by omega
     rw [List.take_length] at hrows
     refine rFz [4] fun μ2 hle2 hno hrow => .inl ?_
     rw [hfe, Gl.d_eq]
     exact ⟨_, rfl, RepS.int (RepS.str (RepS.cons1 (RepV.mono (hle.trans hle2) (Gl.termsW hv0)) (RepS.last (Rows.sl hrow (hrows.mono hle2) (Nat.le_trans (m := 100000000) (by omega) (by decide))))))⟩
  ·rw [if_neg (fun q => h9 q.1)] at hfe
   intro r11
   refine loop_nil (fun p : Nat × Option Nat × Nat × List Value × Mem => p.1 ≤ g.goals.length ∧ μ.Le p.2.2.2.2 ∧ Rows p.2.2.2.2 4 (((g.goals.take p.1).map (Gl.fold nm k t sp)).map Gl.d) p.2.2.2.1)
    (fun (i, b, c, us, μ') => ⟨[(1, .val (.string nm)), (2, .val (.int .i64 k)), (4, .val (.string sp)), (8, .loc 1 r8 0), (10, .loc 2 r10 0), (11, .loc 3 r11 0), (50, .val (.slice p.2.1 g.goals.length p.2.2)), (51, .val (.int .i64 g.goals.length)), (52, .val (.int .i64 i))],
     [(1, some (.cells r8 [.val (.int .i64 t.tm.kind), .val (.int .i64 t.tm.num), .val (.string t.tm.name), .val (.slice qw.1 t.tm.args.length qw.2)] 50)), (2, some (.cells r10 [.val (.int .i64 0), .val (.string ⟨#[]⟩), .val (.slice none 0 0), .val (.slice none 0 0)] 30)), (3, some (.cells r11 [.val (.int .i64 g.kind), .val (.string g.name), .val (.slice p.1.1 g.terms.length p.1.2), .row 4 b us.length c] 30)), (4, some (.row b c 30 4 us))], 5, μ', Mem.nil⟩) (fun p => g.goals.length - p.1)
    (0, none, 0, [], μ) ⟨Nat.zero_le _, Mem.Le.refl _, .nil⟩ (fun (_, _, _, _, _) => ⟨rfl, rfl⟩) ⟨⟨⟨_, rfl, .inl rfl⟩, ⟨_, rfl, .inl rfl⟩, ⟨_, rfl, .inl rfl⟩, ⟨_, rfl, .inl rfl⟩, ⟨_, rfl, .inl rfl⟩, ⟨_, rfl, .inl rfl⟩, ⟨_, rfl, .inl rfl⟩, ⟨_, rfl, .inl rfl⟩, ⟨_, rfl, .inl rfl⟩, trivial⟩, ⟨.inl rfl, .inl rfl, .inr (.inr ⟨_, _, _, _, rfl, rfl, .inl rfl, .inl rfl, .inl rfl, .inr ⟨4, rfl, rfl, Nat.le_refl _⟩, trivial⟩), .inr (.inl ⟨_, _, rfl, Nat.le_refl _⟩), trivial⟩, rfl, rfl⟩ ?_
   rintro ⟨i, b, c, us, μ'⟩ ⟨hi, hle, hrows⟩
   dsimp only at hi hle hrows
   have hul := hrows.len
   simp only [List.length_map, List.length_take] at hul
   refine ifd (fun hlt => ?_) (fun hlt => ?_)
   ·have w_ := aSo (l := g.goals) (i := i) (by omega)
    obtain ⟨x, hx⟩ := w_
    have w_ := Gl.elem (hgs.mono hle) hx
    obtain ⟨adx, p3, helx, hrx⟩ := w_
    refine eIn helx ?_
    intro r13
    refine cPl (ih x (mAt hx) hrx (hS.sub x (mAt hx)) (hlong.sub x (mAt hx)) (RepV.mono hle hw0)) fun v2 μ2 hle2 hR => ?_
    have w_ := Gl.invV hR
    obtain ⟨q, rfl⟩ := w_
    intro r25
    refine gIn ?_ ?_ fun b' c' _ => ?_
    ·show (us.length + 1) * 72 ≤ _; omega
    ·exact Nat.le_trans (m := 100000000) (show us.length + 1 ≤ _ by omega) (by decide)
    refine num64 (by omega) (by omega) ⟨(i + 1, b', c', _, μ2), ⟨by dsimp only; omega, hle.trans hle2, ?_⟩, by dsimp only; omega, ⟨⟨rfl, rfl, rfl, rfl, rfl, rfl, rfl, rfl, rfl, trivial⟩, ⟨rfl, rfl, rfl, rfl, trivial⟩, rfl, rfl⟩⟩
    dsimp only
    rw [List.take_add_one, hx, Option.toList_some]
    simp only [List.map_append, List.map_cons, List.map_nil]
    exact (hrows.mono hle2).append (Rows.one hR (Gl.d_n _))
   ·obtain rfl : i = g.goals.length := by omega
    rw [List.take_length] at hrows
    refine rFz [4] fun μ2 hle2 hno hrow => .inl ?_
    rw [hfe, Gl.d_eq]
    exact ⟨_, rfl, RepS.int (RepS.str (RepS.cons1 (RepV.mono (hle.trans hle2) (Gl.termsW hv0)) (RepS.last (Rows.sl hrow (hrows.mono hle2) (Nat.le_trans (m := 100000000) (by omega) (by decide))))))⟩
set_option maxHeartbeats 1000000 in
theorem l34Fold_spec {nm sp : ByteArray} {k : Nat} {t : T} : ∀ (g : Gl) {μ : Mem} {v w : Value}, RepV μ g.d v → g.Mild → g.Long nm k → RepV μ t.tm.d w → Spec Tryz.prog 64 [v, .string nm, .int .i64 k, w, .string sp] μ fun v μ' => RepV μ' (g.fold nm k t sp).d v :=
 Gl.ind fun g ih μ v w hv hS hlong hw => by
  have hv0 := hv
  have w_ := Gl.inv hv
  obtain ⟨p, rfl, hts, hgs⟩ := w_
  have w_ := lift_is hS.top.1
  obtain ⟨xs, hxs⟩ := w_
  have hg8 := hS.top.2.2
  have hx4 : xs.length ≤ 100000 := by
   have h := hS.top.2.1
   rwa [hxs, List.length_map] at h
  have hlen : g.terms.length = xs.length := by rw [hxs, List.length_map]
  have hw0 := hw
  have w_ := Tm.invV hw
  obtain ⟨qw, rfl⟩ := w_
  have hnil : ∀ μ', RepV μ' (.sl 4 (([] : List Gl).map Gl.d)) (.slice none 0 0) := fun μ' => ⟨none, 0, rfl, ⟨Nat.zero_le _, Nat.zero_le _⟩, (fun _ h => nomatch h), .inl rfl⟩
  have hfe0 := Gl.fold_eq nm k t sp g
  have hfeN : ¬ (g.kind = 9 ∧ g.name = nm ∧ g.terms[k]? = some t.tm) → g.fold nm k t sp = .mk g.kind g.name g.terms (g.goals.map fun x => if g.kind = 10 then x else x.fold nm k t sp) := fun h => by
   rw [hfe0]
   by_cases e : g.kind = 10
   ·rw [if_pos e]
    simp only [e, if_true, List.map_id']
    rw [← e]
    cases g; rfl
   ·rw [if_neg e, if_neg h]
    simp only [e, if_false]
  refine Spec.mk Tryz.func64 (by kernel_rfl) ?_
  intro r5 r8 r10
  refine ifd (fun h9 => ?_) (fun h9 => ?_)
  ·refine ifd (fun hn => ?_) (fun hn => ?_)
   ·have hkl := hlong.top h9 hn
    have w_ := aSo (l := xs) (i := k) (by omega)
    obtain ⟨y, hy⟩ := w_
    have hgk : g.terms[k]? = some y.tm := by rw [hxs, List.getElem?_map, hy]; rfl
    have hts2 := hts
    rw [hxs, List.length_map] at hts2
    have w_ := T.elemL hts2 hy
    obtain ⟨ad, py, hel, hry⟩ := w_
    rw [← hlen] at hel
    refine eIn hel ?_
    refine cGv (l02Same_spec y t hry hw0) ?_
    refine ifd (fun he => ?_) (fun he => ?_)
    ·have hfe := hfe0
     rw [if_neg (show ¬ g.kind = 10 by omega), if_pos ⟨h9, hn, by rw [hgk, he]⟩] at hfe
     have hrt := Gl.termsW hv0
     rw [show g.terms.map Tm.d = (xs.map T.tm).map Tm.d by rw [hxs]] at hrt
     refine cPl (l34Without_spec (xs := xs) (k := k) hrt (by omega) (by omega)) fun v5 μ5 hle5 hR5 => ?_
     have w_ := Rep.sl hR5
     obtain ⟨b5, c5, rfl, -⟩ := w_
     refine rPl ?_
     rw [hfe, Gl.d_eq]
     have e : (Gl.mk 9 sp (g.terms.eraseIdx k) []).terms = ((xs.eraseIdx k).map T.tm) := by
      show g.terms.eraseIdx k = _
      rw [hxs, List.eraseIdx_eq_take_drop_succ, List.eraseIdx_eq_take_drop_succ]; simp
     rw [e]
     exact ⟨_, rfl, RepS.int (RepS.str (RepS.cons1 hR5 (RepS.last (hnil _))))⟩
    ·have hfe := hfeN fun q => he (T.tm_inj (Option.some.inj (hgk.symm.trans q.2.2)))
     intro r11
     refine loop_nil (fun p : Nat × Option Nat × Nat × List Value × Mem => p.1 ≤ g.goals.length ∧ μ.Le p.2.2.2.2 ∧ Rows p.2.2.2.2 4 (((g.goals.take p.1).map fun x => if g.kind = 10 then x else x.fold nm k t sp).map Gl.d) p.2.2.2.1)
      (fun (i, b, c, us, μ') => ⟨[(1, .val (.string nm)), (2, .val (.int .i64 k)), (4, .val (.string sp)), (5, .loc 0 r5 0), (8, .loc 1 r8 0), (10, .loc 2 r10 0), (11, .loc 3 r11 0), (46, .val (.slice p.2.1 g.goals.length p.2.2)), (47, .val (.int .i64 g.goals.length)), (48, .val (.int .i64 i))],
       [(0, some (.cells r5 [.val (.int .i64 g.kind), .val (.string g.name), .val (.slice p.1.1 g.terms.length p.1.2), .val (.slice p.2.1 g.goals.length p.2.2)] 30)), (1, some (.cells r8 [.val (.int .i64 t.tm.kind), .val (.int .i64 t.tm.num), .val (.string t.tm.name), .val (.slice qw.1 t.tm.args.length qw.2)] 50)), (2, some (.cells r10 [.val (.int .i64 0), .val (.string ⟨#[]⟩), .val (.slice none 0 0), .val (.slice none 0 0)] 30)), (3, some (.cells r11 [.val (.int .i64 g.kind), .val (.string g.name), .val (.slice p.1.1 g.terms.length p.1.2), .row 4 b us.length c] 30)), (4, some (.row b c 30 4 us))], 5, μ', Mem.nil⟩) (fun p => g.goals.length - p.1)
      (0, none, 0, [], μ) ⟨Nat.zero_le _, Mem.Le.refl _, .nil⟩ (fun (_, _, _, _, _) => ⟨rfl, rfl⟩) ⟨⟨⟨_, rfl, .inl rfl⟩, ⟨_, rfl, .inl rfl⟩, ⟨_, rfl, .inl rfl⟩, ⟨_, rfl, .inl rfl⟩, ⟨_, rfl, .inl rfl⟩, ⟨_, rfl, .inl rfl⟩, ⟨_, rfl, .inl rfl⟩, ⟨_, rfl, .inl rfl⟩, ⟨_, rfl, .inl rfl⟩, ⟨_, rfl, .inl rfl⟩, trivial⟩, ⟨.inl rfl, .inl rfl, .inl rfl, .inr (.inr ⟨_, _, _, _, rfl, rfl, .inl rfl, .inl rfl, .inl rfl, .inr ⟨4, rfl, rfl, Nat.le_refl _⟩, trivial⟩), .inr (.inl ⟨_, _, rfl, Nat.le_refl _⟩), trivial⟩, rfl, rfl⟩ ?_
     rintro ⟨i, b, c, us, μ'⟩ ⟨hi, hle, hrows⟩
     dsimp only at hi hle hrows
     have hul := hrows.len
     simp only [List.length_map, List.length_take] at hul
     refine ifd (fun hlt => ?_) (fun hlt => ?_)
     ·have w_ := aSo (l := g.goals) (i := i) (by omega)
      obtain ⟨x, hx⟩ := w_
      have w_ := Gl.elem (hgs.mono hle) hx
      obtain ⟨adx, p3, helx, hrx⟩ := w_
      refine eIn helx ?_
      intro r13
      refine ifnd (fun hk => ?_) (fun hk => ?_)
      ·refine cPl (ih x (mAt hx) hrx (hS.sub x (mAt hx)) (hlong.sub x (mAt hx)) (RepV.mono hle hw0)) fun v2 μ2 hle2 hR => ?_
       have w_ := Gl.invV hR
       obtain ⟨q, rfl⟩ := w_
       intro r25
       refine gIn ?_ ?_ fun b' c' _ => ?_
       ·show (us.length + 1) * 72 ≤ _; omega
       ·exact Nat.le_trans (m := 100000000) (show us.length + 1 ≤ _ by omega) (by decide)
       refine num64 (by omega) (by omega) ⟨(i + 1, b', c', _, μ2), ⟨by dsimp only; omega, hle.trans hle2, ?_⟩, by dsimp only; omega, ⟨⟨rfl, rfl, rfl, rfl, rfl, rfl, rfl, rfl, rfl, rfl, trivial⟩, ⟨rfl, rfl, rfl, rfl, rfl, trivial⟩, rfl, rfl⟩⟩
       dsimp only
       rw [List.take_add_one, hx, Option.toList_some]
       simp only [List.map_append, List.map_cons, List.map_nil, if_neg hk]
       simp only [if_neg hk] at hrows
       exact (hrows.mono hle2).append (Rows.one hR (Gl.d_n _))
      ·intro r25
       refine gIn ?_ ?_ fun b' c' _ => ?_
       ·show (us.length + 1) * 72 ≤ _; omega
       ·exact Nat.le_trans (m := 100000000) (show us.length + 1 ≤ _ by omega) (by decide)
       refine num64 (by omega) (by omega) ⟨(i + 1, b', c', _, μ'), ⟨by dsimp only; omega, hle, ?_⟩, by dsimp only; omega, ⟨⟨rfl, rfl, rfl, rfl, rfl, rfl, rfl, rfl, rfl, rfl, trivial⟩, ⟨rfl, rfl, rfl, rfl, rfl, trivial⟩, rfl, rfl⟩⟩
       dsimp only
       rw [List.take_add_one, hx, Option.toList_some]
       simp only [List.map_append, List.map_cons, List.map_nil, if_pos hk]
       simp only [if_pos hk] at hrows
       exact hrows.append (Rows.one hrx (Gl.d_n _))
     ·obtain rfl : i = g.goals.length := by omega
      rw [List.take_length] at hrows
      refine rFz [4] fun μ2 hle2 hno hrow => .inl ?_
      rw [hfe, Gl.d_eq]
      exact ⟨_, rfl, RepS.int (RepS.str (RepS.cons1 (RepV.mono (hle.trans hle2) (Gl.termsW hv0)) (RepS.last (Rows.sl hrow (hrows.mono hle2) (Nat.le_trans (m := 100000000) (by omega) (by decide))))))⟩
   ·have hfe := hfeN fun q => hn q.2.1
    intro r11
    refine loop_nil (fun p : Nat × Option Nat × Nat × List Value × Mem => p.1 ≤ g.goals.length ∧ μ.Le p.2.2.2.2 ∧ Rows p.2.2.2.2 4 (((g.goals.take p.1).map fun x => if g.kind = 10 then x else x.fold nm k t sp).map Gl.d) p.2.2.2.1)
     (fun (i, b, c, us, μ') => ⟨[(1, .val (.string nm)), (2, .val (.int .i64 k)), (4, .val (.string sp)), (5, .loc 0 r5 0), (8, .loc 1 r8 0), (10, .loc 2 r10 0), (11, .loc 3 r11 0), (46, .val (.slice p.2.1 g.goals.length p.2.2)), (47, .val (.int .i64 g.goals.length)), (48, .val (.int .i64 i))],
      [(0, some (.cells r5 [.val (.int .i64 g.kind), .val (.string g.name), .val (.slice p.1.1 g.terms.length p.1.2), .val (.slice p.2.1 g.goals.length p.2.2)] 30)), (1, some (.cells r8 [.val (.int .i64 t.tm.kind), .val (.int .i64 t.tm.num), .val (.string t.tm.name), .val (.slice qw.1 t.tm.args.length qw.2)] 50)), (2, some (.cells r10 [.val (.int .i64 0), .val (.string ⟨#[]⟩), .val (.slice none 0 0), .val (.slice none 0 0)] 30)), (3, some (.cells r11 [.val (.int .i64 g.kind), .val (.string g.name), .val (.slice p.1.1 g.terms.length p.1.2), .row 4 b us.length c] 30)), (4, some (.row b c 30 4 us))], 5, μ', Mem.nil⟩) (fun p => g.goals.length - p.1)
     (0, none, 0, [], μ) ⟨Nat.zero_le _, Mem.Le.refl _, .nil⟩ (fun (_, _, _, _, _) => ⟨rfl, rfl⟩) ⟨⟨⟨_, rfl, .inl rfl⟩, ⟨_, rfl, .inl rfl⟩, ⟨_, rfl, .inl rfl⟩, ⟨_, rfl, .inl rfl⟩, ⟨_, rfl, .inl rfl⟩, ⟨_, rfl, .inl rfl⟩, ⟨_, rfl, .inl rfl⟩, ⟨_, rfl, .inl rfl⟩, ⟨_, rfl, .inl rfl⟩, ⟨_, rfl, .inl rfl⟩, trivial⟩, ⟨.inl rfl, .inl rfl, .inl rfl, .inr (.inr ⟨_, _, _, _, rfl, rfl, .inl rfl, .inl rfl, .inl rfl, .inr ⟨4, rfl, rfl, Nat.le_refl _⟩, trivial⟩), .inr (.inl ⟨_, _, rfl, Nat.le_refl _⟩), trivial⟩, rfl, rfl⟩ ?_
    rintro ⟨i, b, c, us, μ'⟩ ⟨hi, hle, hrows⟩
    dsimp only at hi hle hrows
    have hul := hrows.len
    simp only [List.length_map, List.length_take] at hul
    refine ifd (fun hlt => ?_) (fun hlt => ?_)
    ·have w_ := aSo (l := g.goals) (i := i) (by omega)
     obtain ⟨x, hx⟩ := w_
     have w_ := Gl.elem (hgs.mono hle) hx
     obtain ⟨adx, p3, helx, hrx⟩ := w_
     refine eIn helx ?_
     intro r13
     refine ifnd (fun hk => ?_) (fun hk => ?_)
     ·refine cPl (ih x (mAt hx) hrx (hS.sub x (mAt hx)) (hlong.sub x (mAt hx)) (RepV.mono hle hw0)) fun v2 μ2 hle2 hR => ?_
      have w_ := Gl.invV hR
      obtain ⟨q, rfl⟩ := w_
      intro r25
      refine gIn ?_ ?_ fun b' c' _ => ?_
      ·show (us.length + 1) * 72 ≤ _; omega
      ·exact Nat.le_trans (m := 100000000) (show us.length + 1 ≤ _ by omega) (by decide)
      refine num64 (by omega) (by omega) ⟨(i + 1, b', c', _, μ2), ⟨by dsimp only; omega, hle.trans hle2, ?_⟩, by dsimp only; omega, ⟨⟨rfl, rfl, rfl, rfl, rfl, rfl, rfl, rfl, rfl, rfl, trivial⟩, ⟨rfl, rfl, rfl, rfl, rfl, trivial⟩, rfl, rfl⟩⟩
      dsimp only
      rw [List.take_add_one, hx, Option.toList_some]
      simp only [List.map_append, List.map_cons, List.map_nil, if_neg hk]
      simp only [if_neg hk] at hrows
      exact (hrows.mono hle2).append (Rows.one hR (Gl.d_n _))
     ·intro r25
      refine gIn ?_ ?_ fun b' c' _ => ?_
      ·show (us.length + 1) * 72 ≤ _; omega
      ·exact Nat.le_trans (m := 100000000) (show us.length + 1 ≤ _ by omega) (by decide)
      refine num64 (by omega) (by omega) ⟨(i + 1, b', c', _, μ'), ⟨by dsimp only; omega, hle, ?_⟩, by dsimp only; omega, ⟨⟨rfl, rfl, rfl, rfl, rfl, rfl, rfl, rfl, rfl, rfl, trivial⟩, ⟨rfl, rfl, rfl, rfl, rfl, trivial⟩, rfl, rfl⟩⟩
      dsimp only
      rw [List.take_add_one, hx, Option.toList_some]
      simp only [List.map_append, List.map_cons, List.map_nil, if_pos hk]
      simp only [if_pos hk] at hrows
      exact hrows.append (Rows.one hrx (Gl.d_n _))
    ·obtain rfl : i = g.goals.length := by omega
     rw [List.take_length] at hrows
     refine rFz [4] fun μ2 hle2 hno hrow => .inl ?_
     rw [hfe, Gl.d_eq]
     exact ⟨_, rfl, RepS.int (RepS.str (RepS.cons1 (RepV.mono (hle.trans hle2) (Gl.termsW hv0)) (RepS.last (Rows.sl hrow (hrows.mono hle2) (Nat.le_trans (m := 100000000) (by omega) (by decide))))))⟩
  ·have hfe := hfeN fun q => h9 q.1
   intro r11
   refine loop_nil (fun p : Nat × Option Nat × Nat × List Value × Mem => p.1 ≤ g.goals.length ∧ μ.Le p.2.2.2.2 ∧ Rows p.2.2.2.2 4 (((g.goals.take p.1).map fun x => if g.kind = 10 then x else x.fold nm k t sp).map Gl.d) p.2.2.2.1)
    (fun (i, b, c, us, μ') => ⟨[(1, .val (.string nm)), (2, .val (.int .i64 k)), (4, .val (.string sp)), (5, .loc 0 r5 0), (8, .loc 1 r8 0), (10, .loc 2 r10 0), (11, .loc 3 r11 0), (46, .val (.slice p.2.1 g.goals.length p.2.2)), (47, .val (.int .i64 g.goals.length)), (48, .val (.int .i64 i))],
     [(0, some (.cells r5 [.val (.int .i64 g.kind), .val (.string g.name), .val (.slice p.1.1 g.terms.length p.1.2), .val (.slice p.2.1 g.goals.length p.2.2)] 30)), (1, some (.cells r8 [.val (.int .i64 t.tm.kind), .val (.int .i64 t.tm.num), .val (.string t.tm.name), .val (.slice qw.1 t.tm.args.length qw.2)] 50)), (2, some (.cells r10 [.val (.int .i64 0), .val (.string ⟨#[]⟩), .val (.slice none 0 0), .val (.slice none 0 0)] 30)), (3, some (.cells r11 [.val (.int .i64 g.kind), .val (.string g.name), .val (.slice p.1.1 g.terms.length p.1.2), .row 4 b us.length c] 30)), (4, some (.row b c 30 4 us))], 5, μ', Mem.nil⟩) (fun p => g.goals.length - p.1)
    (0, none, 0, [], μ) ⟨Nat.zero_le _, Mem.Le.refl _, .nil⟩ (fun (_, _, _, _, _) => ⟨rfl, rfl⟩) ⟨⟨⟨_, rfl, .inl rfl⟩, ⟨_, rfl, .inl rfl⟩, ⟨_, rfl, .inl rfl⟩, ⟨_, rfl, .inl rfl⟩, ⟨_, rfl, .inl rfl⟩, ⟨_, rfl, .inl rfl⟩, ⟨_, rfl, .inl rfl⟩, ⟨_, rfl, .inl rfl⟩, ⟨_, rfl, .inl rfl⟩, ⟨_, rfl, .inl rfl⟩, trivial⟩, ⟨.inl rfl, .inl rfl, .inl rfl, .inr (.inr ⟨_, _, _, _, rfl, rfl, .inl rfl, .inl rfl, .inl rfl, .inr ⟨4, rfl, rfl, Nat.le_refl _⟩, trivial⟩), .inr (.inl ⟨_, _, rfl, Nat.le_refl _⟩), trivial⟩, rfl, rfl⟩ ?_
   rintro ⟨i, b, c, us, μ'⟩ ⟨hi, hle, hrows⟩
   dsimp only at hi hle hrows
   have hul := hrows.len
   simp only [List.length_map, List.length_take] at hul
   refine ifd (fun hlt => ?_) (fun hlt => ?_)
   ·have w_ := aSo (l := g.goals) (i := i) (by omega)
    obtain ⟨x, hx⟩ := w_
    have w_ := Gl.elem (hgs.mono hle) hx
    obtain ⟨adx, p3, helx, hrx⟩ := w_
    refine eIn helx ?_
    intro r13
    refine ifnd (fun hk => ?_) (fun hk => ?_)
    ·refine cPl (ih x (mAt hx) hrx (hS.sub x (mAt hx)) (hlong.sub x (mAt hx)) (RepV.mono hle hw0)) fun v2 μ2 hle2 hR => ?_
     have w_ := Gl.invV hR
     obtain ⟨q, rfl⟩ := w_
     intro r25
     refine gIn ?_ ?_ fun b' c' _ => ?_
     ·show (us.length + 1) * 72 ≤ _; omega
     ·exact Nat.le_trans (m := 100000000) (show us.length + 1 ≤ _ by omega) (by decide)
     refine num64 (by omega) (by omega) ⟨(i + 1, b', c', _, μ2), ⟨by dsimp only; omega, hle.trans hle2, ?_⟩, by dsimp only; omega, ⟨⟨rfl, rfl, rfl, rfl, rfl, rfl, rfl, rfl, rfl, rfl, trivial⟩, ⟨rfl, rfl, rfl, rfl, rfl, trivial⟩, rfl, rfl⟩⟩
     dsimp only
     rw [List.take_add_one, hx, Option.toList_some]
     simp only [List.map_append, List.map_cons, List.map_nil, if_neg hk]
     simp only [if_neg hk] at hrows
     exact (hrows.mono hle2).append (Rows.one hR (Gl.d_n _))
    ·intro r25
     refine gIn ?_ ?_ fun b' c' _ => ?_
     ·show (us.length + 1) * 72 ≤ _; omega
     ·exact Nat.le_trans (m := 100000000) (show us.length + 1 ≤ _ by omega) (by decide)
     refine num64 (by omega) (by omega) ⟨(i + 1, b', c', _, μ'), ⟨by dsimp only; omega, hle, ?_⟩, by dsimp only; omega, ⟨⟨rfl, rfl, rfl, rfl, rfl, rfl, rfl, rfl, rfl, rfl, trivial⟩, ⟨rfl, rfl, rfl, rfl, rfl, trivial⟩, rfl, rfl⟩⟩
     dsimp only
     rw [List.take_add_one, hx, Option.toList_some]
     simp only [List.map_append, List.map_cons, List.map_nil, if_pos hk]
     simp only [if_pos hk] at hrows
     exact hrows.append (Rows.one hrx (Gl.d_n _))
   ·obtain rfl : i = g.goals.length := by omega
    rw [List.take_length] at hrows
    refine rFz [4] fun μ2 hle2 hno hrow => .inl ?_
    rw [hfe, Gl.d_eq]
    exact ⟨_, rfl, RepS.int (RepS.str (RepS.cons1 (RepV.mono (hle.trans hle2) (Gl.termsW hv0)) (RepS.last (Rows.sl hrow (hrows.mono hle2) (Nat.le_trans (m := 100000000) (by omega) (by decide))))))⟩
end
end Go.Vx
namespace Go.Vx
open Go.Proofs Classical
theorem T.subst_congrD {f g : Int → Option T} : ∀ (x : T), (∀ n ∈ x.vars, (f n).getD (.var n) = (g n).getD (.var n)) → x.subst f = x.subst g
 | .nil, _ => rfl
 | .var n, h => h n (by simp [T.vars])
 | .sym _, _ => rfl
 | .num _, _ => rfl
 | .pair a b, h => by
  show T.pair (a.subst f) (b.subst f) = T.pair (a.subst g) (b.subst g)
  rw [T.subst_congrD a fun n hn => h n (by simp [T.vars, hn]), T.subst_congrD b fun n hn => h n (by simp [T.vars, hn])]
theorem mapM_congr {α β : Type} {f g : α → Option β} : ∀ {l : List α}, (∀ x ∈ l, f x = g x) → l.mapM f = l.mapM g
 | [], _ => rfl
 | x :: l, h => by
  rw [List.mapM_cons, List.mapM_cons, h x (by simp), mapM_congr fun y hy => h y (List.mem_cons_of_mem _ hy)]
theorem Gl.withO_congr {F F' : T → Option T} : ∀ g : Gl, (∀ x ∈ g.all, ∀ t ∈ x.terms, F t.toT = F' t.toT) → g.withO F = g.withO F' :=
 Gl.ind fun g ih h => by
  have h0 : ∀ x ∈ g.goals, x.withO F = x.withO F' := fun x hx => ih x hx fun y hy => h y (by rw [Gl.all_eq]; exact List.mem_cons_of_mem _ (List.mem_flatMap.2 ⟨x, hx, hy⟩))
  have h1 : (g.terms.map Tm.toT).mapM F = (g.terms.map Tm.toT).mapM F' := mapM_congr fun x hx => by
   have w_ := List.mem_map.1 hx
   obtain ⟨t, ht, rfl⟩ := w_
   exact h g (by rw [Gl.all_eq]; exact List.mem_cons_self) t ht
  rw [Gl.withO_eq, Gl.withO_eq, h1, mapM_congr h0]
theorem spcV_len (k m : Nat) (t : T) : (spcV k m t).length = m := by rw [spcV, List.length_map, List.length_range]
theorem spc_ok {k m : Nat} {t : T} (ht : t.ok) (hm : m ≤ 1000) : ∀ b ∈ valsB (spcV k m t), b.to.ok := fun b hb => by
 have w_ := List.mem_iff_getElem?.1 hb
 obtain ⟨i, hi⟩ := w_
 have hil : i < m := by
  have := (List.getElem?_eq_some_iff.1 hi).1
  rw [valsB_len, spcV_len] at this; exact this
 rw [valsB_at (spcV_at hil)] at hi
 cases hi
 show (spcT k t i).ok
 rw [spcT]
 split
 ·exact ⟨⟨by omega, by omega⟩, by simp [T.size]⟩
 ·split
  ·exact ht
  ·exact ⟨⟨by omega, by omega⟩, by simp [T.size]⟩
noncomputable def spcBody (r : Rl) (nm : ByteArray) (k : Nat) (t : T) (sp : ByteArray) : Gl := (r.body.put (sub (valsB (spcV k (r.arity + r.locals).toNat t)))).fold nm k t sp
noncomputable def spcP (p : Pg) (r : Rl) (nm : ByteArray) (k : Nat) (t : T) (sp : ByteArray) : Pg := ⟨p.rels ++ [⟨sp, r.arity - 1, r.locals, spcBody r nm k t sp⟩]⟩
def SpcOk (p : Pg) (nm : ByteArray) (arg : Int) (t : Tm) (r : Rl) : Prop := (∃ k : Nat, findR p nm = (k : Int) ∧ p.rels[k]? = some r) ∧ GndT t ∧ 0 ≤ arg ∧ arg < r.arity
noncomputable def specO (p : Pg) (nm : ByteArray) (arg : Int) (t : Tm) (sp : ByteArray) : Option Pg :=
 if h : ∃ r, SpcOk p nm arg t r then if (spcP p h.choose nm arg.toNat t.toT sp).Ok then some (spcP p h.choose nm arg.toNat t.toT sp) else none else none
theorem SpcOk.uniq {p : Pg} {nm : ByteArray} {arg : Int} {t : Tm} {r r' : Rl} (h : SpcOk p nm arg t r) (h' : SpcOk p nm arg t r') : r = r' := by
 obtain ⟨⟨k, h1, h2⟩, _⟩ := h
 obtain ⟨⟨k', h3, h4⟩, _⟩ := h'
 obtain rfl : k = k' := by omega
 rw [h2] at h4; exact Option.some.inj h4
theorem specO_some {p : Pg} {nm : ByteArray} {arg : Int} {t : Tm} {sp : ByteArray} {r : Rl} (h : SpcOk p nm arg t r) : specO p nm arg t sp = if (spcP p r nm arg.toNat t.toT sp).Ok then some (spcP p r nm arg.toNat t.toT sp) else none := by
 have hx : ∃ r, SpcOk p nm arg t r := ⟨r, h⟩
 rw [specO, dif_pos hx, hx.choose_spec.uniq h]
theorem specO_none {p : Pg} {nm : ByteArray} {arg : Int} {t : Tm} {sp : ByteArray} (h : ∀ r, ¬ SpcOk p nm arg t r) : specO p nm arg t sp = none := by
 rw [specO, dif_neg (fun k => by obtain ⟨r, hr⟩ := k; exact h r hr)]
theorem Gl.put_top {f : Int → Option T} {g : Gl} (h : g.Sh) (ht : ∀ t ∈ (g.put f).terms, t.Ok) : TopOk (g.put f) := by
 have w_ := lift_ok h.top.tm
 obtain ⟨xs, hxs, hok⟩ := w_
 have e1 : (g.put f).terms = (xs.map (T.subst f)).map T.tm := by
  rw [Gl.put_terms, hxs, List.map_map, List.map_map]
  exact List.map_congr_left fun x _ => by simp [T.toT_tm]
 have e2 := Gl.put_goals f g
 have hl : (g.put f).terms.length = g.terms.length := by rw [Gl.put_terms, List.length_map]
 have hgl : (g.put f).goals.length = g.goals.length := by rw [e2, List.length_map]
 have tp := h.top
 have hk := Gl.put_kind f g
 refine ⟨ht, hk ▸ tp.k0, hk ▸ tp.k1, ?_, ?_, ?_, ?_, ?_, ?_, ?_, ?_, ?_, ?_, ?_⟩
 ·rw [hk, Gl.put_name]; exact tp.nm
 ·rw [hk, Gl.put_name]; exact tp.rel
 ·rw [hk, hl]; exact tp.ln9
 ·rw [hk, hl]; exact tp.ln2
 ·rw [hk, hl]; exact tp.ln1
 ·rw [hk, hl]; exact tp.ln0
 ·rw [hgl]; exact tp.gl
 ·rw [hk, hgl]; exact tp.gl0
 ·rw [hk, hgl]; exact tp.gl1
 ·rw [hk, e1]
  intro h6 a ha
  have h7 := tp.sy h6
  rw [hxs] at h7
  rw [List.map_map, List.getElem?_map] at ha
  cases hx : xs[0]? with
  | none => rw [hx] at ha; cases ha
  | some x =>
   rw [hx] at ha
   cases ha
   exact T.subst_sym (h7 x.tm (by simp [hx]))
 ·rw [hk, e2]
  intro h10 b hb'
  rw [List.getElem?_map] at hb'
  cases hx : g.goals[0]? with
  | none => rw [hx] at hb'; cases hb'
  | some x =>
   rw [hx] at hb'
   cases hb'
   rw [Gl.put_kind]
   exact tp.cl h10 x hx
theorem put_fold_Sh {nm sp : ByteArray} {k : Nat} {t : T} {f : Int → Option T} (ht : t.tm.Ok) : ∀ g : Gl, g.Sh → ((g.put f).fold nm k t sp).Sh → (g.put f).Sh :=
 Gl.ind fun g ih h hf => by
  rw [Gl.fold_eq] at hf
  split at hf
  ·exact hf
  rename_i h10
  split at hf
  ·rename_i hm
   have h1 : ∀ s ∈ (g.put f).terms.eraseIdx k, s.Ok := hf.top.tm
   refine .mk (Gl.put_top h fun s hs => ?_) fun x hx => ?_
   ·have w_ := List.mem_iff_getElem?.1 hs
    obtain ⟨i, hi⟩ := w_
    by_cases e : i = k
    ·subst e
     rw [hm.2.2] at hi; cases hi; exact ht
    ·exact h1 s (List.mem_eraseIdx_iff_getElem?.2 ⟨i, e, hi⟩)
   ·have h0 := h.top.gl0 (.inr (by rw [← Gl.put_kind f g]; exact hm.1))
    have h00 : g.goals = [] := List.eq_nil_of_length_eq_zero h0
    rw [Gl.put_goals, h00] at hx
    exact nomatch hx
  ·refine .mk (Gl.put_top h hf.top.tm) fun x hx => ?_
   have hx0 := hx
   rw [Gl.put_goals] at hx
   have w_ := List.mem_map.1 hx
   obtain ⟨y, hy, rfl⟩ := w_
   refine ih y hy (h.sub y hy) ?_
   exact hf.sub _ (List.mem_map.2 ⟨_, hx0, rfl⟩)
theorem put_long {p : Pg} {nm : ByteArray} {k a : Nat} {r : Rl} {f : Int → Option T} (hk : relAt p nm = (k : Int)) (hr : p.rels[k]? = some r) (ha : (a : Int) < r.arity) : ∀ g : Gl, FitAll p g → (g.put f).Long nm a :=
 Gl.ind fun g ih h x hx h9 hn => by
  rw [Gl.all_eq] at hx
  rcases List.mem_cons.1 hx with rfl | hx
  ·rw [Gl.put_kind] at h9
   rw [Gl.put_name] at hn
   have w_ := h.top h9
   obtain ⟨i, r2, e1, e2, e3⟩ := w_
   rw [hn, hk] at e1
   obtain rfl : k = i := by omega
   rw [hr] at e2; cases e2
   rw [Gl.put_terms, List.length_map]
   omega
  ·have w_ := List.mem_flatMap.1 hx
   obtain ⟨y, hy, hx⟩ := w_
   rw [Gl.put_goals] at hy
   have w_ := List.mem_map.1 hy
   obtain ⟨z, hz, rfl⟩ := w_
   exact ih z hz (h.sub z hz) x hx h9 hn
theorem fold_mild {nm sp : ByteArray} {k : Nat} {t : T} : ∀ g : Gl, g.Mild → (g.fold nm k t sp).Mild :=
 Gl.ind fun g ih h => by
  rw [Gl.fold_eq]
  split
  ·exact h
  split
  ·exact Gl.mild_mk (fun s hs => h.top.1 s (List.mem_of_mem_eraseIdx hs)) (Nat.le_trans (List.length_eraseIdx_le _ _) h.top.2.1) (Nat.zero_le _) (fun x hx => nomatch hx)
  ·refine Gl.mild_mk h.top.1 h.top.2.1 (by show (g.goals.map _).length ≤ _; rw [List.length_map]; exact h.top.2.2) fun x hx => ?_
   have w_ := List.mem_map.1 (show x ∈ g.goals.map (Gl.fold nm k t sp) from hx)
   obtain ⟨y, hy, rfl⟩ := w_
   exact ih y hy (h.sub y hy)
end Go.Vx
namespace Go.Vx
open Go.Proofs Classical
theorem T.good_vars : ∀ {x : T}, x.good → ∀ n ∈ x.vars, 0 ≤ n ∧ n ≤ 100000
 | .nil, _, n, h => by simp [T.vars] at h
 | .var m, hg, n, h => by
  simp only [T.vars, List.mem_singleton] at h
  subst h; exact hg
 | .sym _, _, n, h => by simp [T.vars] at h
 | .num _, _, n, h => by simp [T.vars] at h
 | .pair a b, hg, n, h => by
  simp only [T.vars, List.mem_append] at h
  rcases h with h | h
  ·exact T.good_vars hg.1 n h
  ·exact T.good_vars hg.2 n h
section
variable {μ : Mem}
theorem boxL_at {r : Nat} {cs : List Value} {ty : TypeId} (h : μ r = some (.cells cs.toArray ty (0, 0))) : ∀ j v, cs[j]? = some v → μ.cell ((⟨r, 0, none⟩ : Addr).add j) = some v := fun j v hj => by
 rw [Addr.add_lit', Nat.zero_add]
 simp only [Mem.cell, h]
 simpa using hj
def InV (n : Int) : Prop := 0 ≤ n ∧ n ≤ 100000
theorem Specialize11_looks {k ra rt : Nat} {t : T} {qt : Option Addr × Nat} (ht : RepV μ t.tm.d (.agg #[.int .i64 t.tm.kind, .int .i64 t.tm.num, .string t.tm.name, .slice qt.1 t.tm.args.length qt.2]))
  (ha : μ ra = some (.cells #[.int .i64 k] 3 (0, 0))) (hb : μ rt = some (.cells #[.int .i64 t.tm.kind, .int .i64 t.tm.num, .string t.tm.name, .slice qt.1 t.tm.args.length qt.2] 50 (0, 0))) :
  LooksOn InV 73 [.pointer (some ⟨ra, 0, none⟩), .pointer (some ⟨rt, 0, none⟩)] μ (spcF k t) := fun μ' hle n hn => by
 have ha := hle _ _ ha
 have hb := hle _ _ hb
 obtain ⟨hn0, hn1⟩ := hn
 refine Spec.mk Tryz.func73 (by kernel_rfl) ?_
 intro r4
 refine ext_intro [.int .i64 k] rfl (box_at ha) ?_
 refine ifd (fun h => ?_) (fun h => ?_)
 ·refine ext_intro [.int .i64 t.tm.kind, .int .i64 t.tm.num, .string t.tm.name, .slice qt.1 t.tm.args.length qt.2] rfl (boxL_at hb) ?_
  refine rPl ?_
  rw [spcF, if_pos h]
  exact ⟨_, rfl, RepV.mono hle ht⟩
 ·refine ext_intro [.int .i64 k] rfl (box_at ha) ?_
  refine ifd (fun h2 => ?_) (fun h2 => ?_)
  ·refine num64 (by omega) (by omega) ?_
   refine cGv (variable_spec _) ?_
   refine rPl ?_
   rw [spcF, if_neg h, if_pos h2]
   exact ⟨_, rfl, varV_rep _⟩
  ·refine rPl ?_
   rw [spcF, if_neg h, if_neg h2]
   rfl
theorem spcF_ok {k : Nat} {t : T} (ht : t.ok) {n : Int} {y : T} (hn : InV n) (h : spcF k t n = some y) : y.ok := by
 rw [spcF] at h
 split at h
 ·cases h; exact ht
 ·split at h
  ·cases h
   exact ⟨⟨by have := hn.1; omega, by have := hn.2; omega⟩, by simp [T.size]⟩
  ·cases h
theorem Specialize1_maps {k ra rt : Nat} {t : T} {qt : Option Addr × Nat} (hok : t.ok) (ht : RepV μ t.tm.d (.agg #[.int .i64 t.tm.kind, .int .i64 t.tm.num, .string t.tm.name, .slice qt.1 t.tm.args.length qt.2]))
  (ha : μ ra = some (.cells #[.int .i64 k] 3 (0, 0))) (hb : μ rt = some (.cells #[.int .i64 t.tm.kind, .int .i64 t.tm.num, .string t.tm.name, .slice qt.1 t.tm.args.length qt.2] 50 (0, 0))) :
  Maps 71 [.pointer (some ⟨ra, 0, none⟩), .pointer (some ⟨rt, 0, none⟩)] μ (fun x => fit (x.subst (spcF k t))) := fun μ' hle x v hx hv => by
 have w_ := Tm.invV hv
 obtain ⟨p, rfl⟩ := w_
 refine Spec.mk Tryz.func71 (by kernel_rfl) ?_
 intro r1 r2
 refine cPl (replaced_specQ (Q := InV) x (fun n hn => T.good_vars hx.1 n hn) (Specialize11_looks (RepV.mono hle ht) (hle _ _ ha) (hle _ _ hb)) (fun n y hq hy => spcF_ok hok hq hy) hv) fun v2 μ2 hle2 hR => ?_
 cases hf : fit (x.subst (spcF k t)) with
 | some y =>
  rw [hf] at hR
  obtain ⟨tv, rfl, htv⟩ := hR
  have w_ := Tm.invV htv.rep
  obtain ⟨q, rfl⟩ := w_
  intro r6
  refine rPl ?_
  show optV _ (fit (x.subst (spcF k t))) _
  rw [hf]
  exact ⟨_, rfl, htv⟩
 | none =>
  rw [hf] at hR
  obtain rfl := hR
  intro r6
  refine rPl ?_
  show optV _ (fit (x.subst (spcF k t))) _
  rw [hf]
  rfl
end
end Go.Vx
namespace Go.Vx
open Go.Proofs Classical
section
variable {μ : Mem}
set_option maxHeartbeats 2000000 in
theorem impl_SpecializeRel_spec {p : Pg} {nm sp : ByteArray} {arg : Int} {t : Tm} {v w : Value} (hp : RepV μ p.d v) (ht : RepV μ t.d w) :
  Spec Tryz.prog 21 [v, .string nm, .int .i64 arg, w, .string sp] μ fun v μ' => optP (fun y tv => Fresh μ μ' y.d tv) (specO p nm arg t sp) v := by
 have hp0 := hp
 have w_ := Pg.inv hp
 obtain ⟨q, rfl, hrl⟩ := w_
 have ht0 := ht
 have w_ := Tm.invV ht
 obtain ⟨qt, rfl⟩ := w_
 refine Spec.mk Tryz.func21 (by kernel_rfl) ?_
 intro r5 r7 r8 r10
 refine cPl (impl_FindRel_spec hp0) fun v1 μ1 hle1 hR => ?_
 obtain rfl := hR
 refine ifd (fun h => ?_) (fun h => ?_)
 ·refine rPl ?_
  rw [specO_none fun r hr => by obtain ⟨⟨k, h1, _⟩, _⟩ := hr; omega]
  rfl
 refine cGv (impl_IsGround_any t (RepV.mono hle1 ht0)) ?_
 refine ifnd (fun h2 => ?_) (fun hg => ?_)
 ·refine rPl ?_
  rw [specO_none fun r hr => h2 hr.2.1]
  rfl
 refine ifd (fun h3 => ?_) (fun h3 => ?_)
 ·refine rPl ?_
  rw [specO_none fun r hr => by have := hr.2.2.1; omega]
  rfl
 have w_ := Int.eq_ofNat_of_zero_le (show 0 ≤ findR p nm by omega)
 obtain ⟨k, hk⟩ := w_
 have hpo : p.Ok := Classical.byContradiction fun e => by rw [findR, if_neg e] at h; exact h (by decide)
 have hfind : findR p nm = relAt p nm := by rw [findR, if_pos hpo]
 have w_ := relAt_get (p := p) (s := nm) (by omega)
 obtain ⟨k', r, hk', hr, -⟩ := w_
 obtain rfl : k = k' := by omega
 have hro := hpo.2 _ r hr
 have har0 := hro.ar0
 have har4 := hro.ar4
 have hlo0 := hro.lo0
 have hlo8 := hro.lo8
 have w_ := Rl.elemA (hrl.mono hle1) hr
 obtain ⟨adr, qr, helr, hrr, hbody⟩ := w_
 have hbody : RepV μ1 r.body.d (.agg (r.body.cs qr).toArray) := hbody
 rw [hk]
 refine eIn helr ?_
 refine ifd (fun h4 => ?_) (fun h4 => ?_)
 ·refine rPl ?_
  rw [specO_none fun r' hr' => by
   obtain ⟨⟨k2, e1, e2⟩, _, _, e3⟩ := hr'
   obtain rfl : k2 = k := by omega
   rw [hr] at e2; cases e2
   omega]
  rfl
 have hSP : SpcOk p nm arg t r := ⟨⟨k, hk, hr⟩, hg, by omega, by omega⟩
 rw [specO_some hSP]
 have w_ := hg.1.lift
 obtain ⟨x, hx, rfl⟩ := w_
 rw [T.toT_tm]
 have w_ := Int.eq_ofNat_of_zero_le (show 0 ≤ arg by omega)
 obtain ⟨a, rfl⟩ := w_
 rw [Int.toNat_natCast]
 refine eIn helr ?_
 intro r13
 refine call_frz [1, 2] ?_
 intro μ2 hle2 hno2 hat2 μ3 hle3 hno3 hat3
 have hle13 := hle2.trans hle3
 have hm := Specialize1_maps (k := a) hx (RepV.mono (hle1.trans hle13) ht0) (hle3 _ _ hat2) hat3
 have hbs := spc_ok (k := a) (m := (r.arity + r.locals).toNat) hx (by omega)
 have hwc : r.body.withO (fun x' => fit (x'.subst (spcF a x))) = r.body.withO (fits (valsB (spcV a (r.arity + r.locals).toNat x))) := Gl.withO_congr _ fun g hgm s hs => by
  have hgs := (hro.body.all r.body g hgm).top.tm s hs
  have w_ := hgs.lift
  obtain ⟨y, hy, rfl⟩ := w_
  rw [T.toT_tm]
  show fit _ = fit _
  rw [T.subst_congrD y fun n hn => spc_sub (T.good_vars hy.1 n hn).1 ?_]
  have hvr := hro.vars n (List.mem_flatMap.2 ⟨g, hgm, by rw [Gl.tvars]; exact List.mem_flatMap.2 ⟨_, List.mem_map_of_mem hs, by rw [T.toT_tm]; exact hn⟩⟩)
  omega
 refine call_go (goalWith_spec r.body hm (RepV.mono hle13 hbody) hro.body) fun v4 μ4 hle4 hR4 => ?_
 rw [hwc] at hR4
 rcases Gl.with_put hbs r.body hro.body with hP | hP
 ·rw [hP.2] at hR4
  obtain ⟨tv, rfl, htv⟩ := hR4
  have w_ := Gl.invV htv.rep
  obtain ⟨qg, rfl⟩ := w_
  intro r14
  refine iIn (fun h => nomatch h) (fun _ => ?_)
  have hle14 := hle1.trans (hle13.trans hle4)
  have hne : p.rels ≠ [] := fun e => by rw [e] at hr; cases hr
  refine cOw (copyProgram_own (RepV.mono hle14 hp0) hpo hne) fun v5 μ5 H5 hle5 hap5 hR5 => ?_
  obtain ⟨rb, rc, rty, us, rfl, hrow, hgr⟩ := hR5
  intro r16
  refine num64 (by omega) (by omega) ?_
  have hle25 := hle3.trans (hle4.trans hle5)
  have hle35 := hle4.trans hle5
  refine ext_intro [.int .i64 a] rfl (box_at (hle25 _ _ hat2)) ?_
  refine ext_intro [.int .i64 x.tm.kind, .int .i64 x.tm.num, .string x.tm.name, .slice qt.1 x.tm.args.length qt.2] rfl (boxL_at (hle35 _ _ hat3)) ?_
  have hmild := Gl.Sh.mild _ hP.1
  refine cDa hap5 (specialCalls_spec (nm := nm) (sp := sp) (k := a) (t := x) _ (RepV.mono hle5 htv.rep) hmild (put_long (by omega) hr (by omega) _ hro.calls) (RepV.mono (hle14.trans hle5) ht0)) fun v6 μ6 hle6 hap6 hR6 => ?_
  refine cDa hap6 (copyGoal_mild _ hR6 (fold_mild _ hmild)) fun v7 μ7 hle7 hap7 hR7 => ?_
  have w_ := Gl.invV hR7.rep
  obtain ⟨q7, rfl⟩ := w_
  have hul := hgr.len
  rw [List.length_map] at hul
  have hp8 := hpo.1
  intro r75
  refine app_introT us rty rfl hrow ?_ ?_ fun b9 c9 o ty9 hrow9 hor => ?_
  ·show (us.length + 1) * 104 ≤ _; omega
  ·exact Nat.le_trans (m := 100) (show us.length + 1 ≤ _ by omega) (by decide)
  have hap8 := hap7.set (o := o) (apartB hrow hap7 hor)
  have hb9 : ∀ μ', Apart μ' (H5.set b9 o) → μ' b9 = none := fun μ' k => k.symm b9 (by
   obtain ⟨cs, hc, _⟩ := hrow9
   rw [hc]; simp)
  have hnr := FreshS.st (FreshS.str (n := sp) (FreshS.int (n := r.arity - 1) (FreshS.int (n := r.locals) (FreshS.cons hR7 hle7 (Mem.Le.refl _) FreshS.nil))))
  have hg7 := (hgr.mono hle6).snoc (hle5.trans hle6) (d := (Rl.mk sp (r.arity - 1) r.locals (spcBody r nm a x sp)).d) hnr hle7 (Rl.d_n _)
  have hF : ∀ μ', μ7.Le μ' → Apart μ' (H5.set b9 o) → Fresh μ (μ'.join (H5.set b9 o)) (spcP p r nm a x sp).d (.agg #[.slice (some ⟨b9, 0, none⟩) (us.length + 1) c9]) := fun μ' hl hA => by
   have k := (hg7.mono hl).fresh (b := some b9) (cap := c9) ((hle5.trans (hle6.trans hle7)).trans hl) (Mem.le_join μ' (H5.set b9 o)) (fun r0 hr0 => by cases hr0; exact hb9 μ' hA) (hrow9.rowAt (Mem.le_join_right hA)) hrow9.len
   rw [List.length_append] at k
   have e : p.rels.map Rl.d ++ [(Rl.mk sp (r.arity - 1) r.locals (spcBody r nm a x sp)).d] = (spcP p r nm a x sp).rels.map Rl.d := by
    show _ = (p.rels ++ [_]).map Rl.d
    rw [List.map_append]; rfl
   rw [e] at k
   rw [Pg.d_eq]
   exact (FreshS.st (FreshS.cons k ((hle5.trans (hle6.trans hle7)).trans (hl.trans (Mem.le_join _ _))) (Mem.Le.refl _) FreshS.nil)).mono hle14 (Mem.Le.refl _)
  refine cOw (SpecH.lend hap8 (impl_ProgramOk_spec (hF μ7 (Mem.Le.refl _) hap8).rep)) fun v8 μ8 H8 hle8 hap9 hR8 => ?_
  obtain ⟨rfl, μ9, rfl, hle9, e9⟩ := hR8
  refine ifnd (fun hbad => ?_) (fun hgood => ?_)
  ·refine rPl ?_
   rw [if_neg hbad]; rfl
  ·refine ret_own _ Mem.nil (Parts.nil_right _) ?_
   rw [if_pos hgood]
   exact ⟨_, rfl, hF μ8 hle8 hap9⟩
 ·rw [hP.2] at hR4
  obtain rfl := hR4
  intro r14
  refine iIn (fun _ => ?_) (fun h => nomatch h)
  refine rPl ?_
  rw [if_neg]
  ·rfl
  ·intro hok
   have hro2 := hok.2 p.rels.length ⟨sp, r.arity - 1, r.locals, spcBody r nm a x sp⟩ (by show (p.rels ++ _)[p.rels.length]? = _; simp)
   exact hP.1 (put_fold_Sh hg.1 _ hro.body hro2.body)
end
end Go.Vx
namespace Go.Vx
open Go.Proofs Classical
theorem Pg.repS {μ : Mem} {p : Pg} {v : Value} (h : RepV μ (.sl 7 (p.rels.map Rl.d)) v) : RepV μ p.d (.agg #[v]) := by
 rw [Pg.d_eq]
 exact ⟨_, rfl, RepS.last h⟩
section
variable {μ : Mem}
set_option maxHeartbeats 2000000 in
theorem spec_SpecializeRel_spec {p : Pg} {nm sp : ByteArray} {arg : Int} {t : Tm} {v w : Value} (hp : RepV μ p.d v) (hw : p.d.wd) (ht : RepV μ t.d w) (hwt : t.d.wd) (hsp : sp.size ≤ 1048576) :
  Spec Tryz.prog 18 [v, .string nm, .int .i64 arg, w, .string sp] μ fun v μ' => optP (fun y tv => RepV μ' y.d tv) (specO p nm arg t sp) v := by
 have hp0 := hp
 have w_ := Pg.inv hp
 obtain ⟨q, rfl, hrl⟩ := w_
 have ht0 := ht
 have w_ := Tm.invV ht
 obtain ⟨qt, rfl⟩ := w_
 refine Spec.mk Tryz.func18 (by kernel_rfl) ?_
 intro r5 r8 r10
 refine cPl (spec_FindRel_spec hp0 hw) fun v1 μ1 hle1 hR => ?_
 obtain rfl := hR
 refine ifd (fun h => ?_) (fun h => ?_)
 ·refine rPl ?_
  rw [specO_none fun r hr => by obtain ⟨⟨k, h1, _⟩, _⟩ := hr; omega]
  rfl
 have w_ := Int.eq_ofNat_of_zero_le (show 0 ≤ findR p nm by omega)
 obtain ⟨k, hk⟩ := w_
 have hpo : p.Ok := Classical.byContradiction fun e => by rw [findR, if_neg e] at h; exact h (by decide)
 have hfind : findR p nm = relAt p nm := by rw [findR, if_pos hpo]
 have w_ := relAt_get (p := p) (s := nm) (by omega)
 obtain ⟨k', r, hk', hr, -⟩ := w_
 obtain rfl : k = k' := by omega
 have hro := hpo.2 _ r hr
 have har0 := hro.ar0
 have har4 := hro.ar4
 have hlo0 := hro.lo0
 have hlo8 := hro.lo8
 have w_ := Rl.elemA (hrl.mono hle1) hr
 obtain ⟨adr, qr, helr, hrr, hbody⟩ := w_
 have hbody : RepV μ1 r.body.d (.agg (r.body.cs qr).toArray) := hbody
 refine cGv (spec_IsGround_any t (RepV.mono hle1 ht0) hwt) ?_
 refine ifnd (fun h2 => ?_) (fun hg => ?_)
 ·refine rPl ?_
  rw [specO_none fun r hr => h2 hr.2.1]
  rfl
 rw [hk]
 refine eIn helr ?_
 refine num64 (by omega) (by omega) ?_
 refine cGv (l01In_spec _ _ _ _) ?_
 refine ifnd (fun h4 => ?_) (fun hin => ?_)
 ·refine rPl ?_
  rw [specO_none fun r' hr' => by
   obtain ⟨⟨k2, e1, e2⟩, _, e0, e3⟩ := hr'
   obtain rfl : k2 = k := by omega
   rw [hr] at e2; cases e2
   exact h4 ⟨e0, by omega⟩]
  rfl
 have hSP : SpcOk p nm arg t r := ⟨⟨k, hk, hr⟩, hg, by omega, by omega⟩
 rw [specO_some hSP]
 have w_ := hg.1.lift
 obtain ⟨x, hx, rfl⟩ := w_
 rw [T.toT_tm]
 have w_ := Int.eq_ofNat_of_zero_le (show 0 ≤ arg by omega)
 obtain ⟨a, rfl⟩ := w_
 rw [Int.toNat_natCast]
 refine eIn helr ?_
 intro r13
 intro r48
 obtain ⟨m, hm⟩ : ∃ m : Nat, r.arity + r.locals = (m : Int) := ⟨(r.arity + r.locals).toNat, by omega⟩
 have htx := RepV.mono hle1 ht0
 have hvl := spcV_len a m x
 refine lIn (fun z : Nat × Option Nat × Nat × List Value => z.1 ≤ m ∧ Rows μ1 5 (((valsB ((spcV a m x).take z.1)).map B.bd).map Bd.d) z.2.2.2)
  (fun (i, bo, co, ys) => ⟨[(1, .val (.string nm)), (2, .val (.int .i64 a)), (4, .val (.string sp)), (5, .loc 0 r5 0), (8, .loc 1 r8 0), (10, .loc 2 r10 0), (13, .loc 3 r13 0), (14, .row 4 bo ys.length co), (15, .val (.int .i64 i))],
   [(0, some (.cells r5 [.val (.slice q.1 p.rels.length q.2)] 45)), (1, some (.cells r8 [.val (.int .i64 x.tm.kind), .val (.int .i64 x.tm.num), .val (.string x.tm.name), .val (.slice qt.1 x.tm.args.length qt.2)] 50)), (2, some (.cells r10 [.val (.slice none 0 0)] 45)), (3, some (.cells r13 (vals (r.cs qr)) 94)), (4, some (.row bo co 98 5 ys))], 5, μ1, Mem.nil⟩) (fun z => m - z.1)
  (0, some r48, 0, []) ⟨Nat.zero_le _, .nil⟩ (fun (_, _, _, _) => ⟨rfl, rfl⟩) ⟨⟨rfl, rfl, rfl, rfl, rfl, rfl, rfl, rfl, rfl, trivial⟩, ⟨rfl, rfl, rfl, rfl, rfl, trivial⟩, rfl, rfl⟩ ?_
 rintro ⟨i, bo, co, ys⟩ ⟨hi, hrows⟩
 dsimp only at hi hrows
 have hyl := hrows.len
 simp only [List.length_map, valsB_len, List.length_take, hvl] at hyl
 refine num64 (by omega) (by omega) ?_
 refine ifd (fun hlt => ?_) (fun hlt => ?_)
 ·have hnext : ((valsB ((spcV a m x).take (i + 1))).map B.bd).map Bd.d = ((valsB ((spcV a m x).take i)).map B.bd).map Bd.d ++ [(B.bd ⟨(i : Int), spcT a x i⟩).d] := by
   rw [← valsB_take, List.take_add_one, valsB_at (spcV_at (by omega)), Option.toList_some, valsB_take]
   simp only [List.map_append, List.map_cons, List.map_nil]
  refine ifd (fun h1 => ?_) (fun h1 => ?_)
  ·have e : spcT a x i = .var i := by rw [spcT, if_pos (by omega)]
   refine cGv (l02Var_spec _) ?_
   intro r75
   refine gIn ?_ ?_ fun b' c' _ => ?_
   ·show (ys.length + 1) * 64 ≤ _; omega
   ·exact Nat.le_trans (m := 100000000) (show ys.length + 1 ≤ _ by omega) (by decide)
   refine num64 (by omega) (by omega) ⟨(i + 1, b', c', _), ⟨by dsimp only; omega, ?_⟩, by dsimp only; omega, ⟨⟨rfl, rfl, rfl, rfl, rfl, rfl, rfl, rfl, rfl, trivial⟩, ⟨rfl, rfl, rfl, rfl, rfl, trivial⟩, rfl, rfl⟩⟩
   dsimp only
   rw [hnext, e]
   exact hrows.append (Rows.one (RepV.bd (x := T.var i) (q := (none, 0)) (varV_rep _)) (Bd.d_n _))
  ·refine ifd (fun h2 => ?_) (fun h2 => ?_)
   ·have e : spcT a x i = x := by rw [spcT, if_neg (by omega), if_pos (by omega)]
    intro r75
    refine gIn ?_ ?_ fun b' c' _ => ?_
    ·show (ys.length + 1) * 64 ≤ _; omega
    ·exact Nat.le_trans (m := 100000000) (show ys.length + 1 ≤ _ by omega) (by decide)
    refine num64 (by omega) (by omega) ⟨(i + 1, b', c', _), ⟨by dsimp only; omega, ?_⟩, by dsimp only; omega, ⟨⟨rfl, rfl, rfl, rfl, rfl, rfl, rfl, rfl, rfl, trivial⟩, ⟨rfl, rfl, rfl, rfl, rfl, trivial⟩, rfl, rfl⟩⟩
    dsimp only
    rw [hnext, e]
    exact hrows.append (Rows.one (RepV.bd htx) (Bd.d_n _))
   ·have e : spcT a x i = .var ((i : Int) - 1) := by rw [spcT, if_neg (by omega), if_neg (by omega)]
    refine num64 (by omega) (by omega) ?_
    refine cGv (l02Var_spec _) ?_
    intro r75
    refine gIn ?_ ?_ fun b' c' _ => ?_
    ·show (ys.length + 1) * 64 ≤ _; omega
    ·exact Nat.le_trans (m := 100000000) (show ys.length + 1 ≤ _ by omega) (by decide)
    refine num64 (by omega) (by omega) ⟨(i + 1, b', c', _), ⟨by dsimp only; omega, ?_⟩, by dsimp only; omega, ⟨⟨rfl, rfl, rfl, rfl, rfl, rfl, rfl, rfl, rfl, trivial⟩, ⟨rfl, rfl, rfl, rfl, rfl, trivial⟩, rfl, rfl⟩⟩
    dsimp only
    rw [hnext, e]
    exact hrows.append (Rows.one (RepV.bd (x := T.var ((i : Int) - 1)) (q := (none, 0)) (varV_rep _)) (Bd.d_n _))
 have him : m = i := by omega
 subst him
 rw [List.take_of_length_le (by omega)] at hrows
 have hyl : ys.length = m := by omega
 have hle1b := hle1
 intro r16
 refine loop_nil (fun z : Nat × Option Nat × Nat × List Value × Mem => z.1 ≤ p.rels.length ∧ μ1.Le z.2.2.2.2 ∧ Rows z.2.2.2.2 7 ((p.rels.take z.1).map Rl.d) z.2.2.2.1)
  (fun (i, b, c, us, μ') => ⟨[(1, .val (.string nm)), (2, .val (.int .i64 a)), (4, .val (.string sp)), (8, .loc 1 r8 0), (10, .loc 2 r10 0), (13, .loc 3 r13 0), (14, .row 4 bo ys.length co), (16, .loc 5 r16 0), (89, .val (.slice q.1 p.rels.length q.2)), (90, .val (.int .i64 p.rels.length)), (91, .val (.int .i64 i))],
   [(1, some (.cells r8 [.val (.int .i64 x.tm.kind), .val (.int .i64 x.tm.num), .val (.string x.tm.name), .val (.slice qt.1 x.tm.args.length qt.2)] 50)), (2, some (.cells r10 [.val (.slice none 0 0)] 45)), (3, some (.cells r13 (vals (r.cs qr)) 94)), (4, some (.row bo co 98 5 ys)), (5, some (.cells r16 [.row 6 b us.length c] 45)), (6, some (.row b c 94 7 us))], 7, μ', Mem.nil⟩) (fun z => p.rels.length - z.1)
  (0, none, 0, [], μ1) ⟨Nat.zero_le _, Mem.Le.refl _, .nil⟩ (fun (_, _, _, _, _) => ⟨rfl, rfl⟩) ⟨⟨⟨_, rfl, .inl rfl⟩, ⟨_, rfl, .inl rfl⟩, ⟨_, rfl, .inl rfl⟩, ⟨_, rfl, .inl rfl⟩, ⟨_, rfl, .inl rfl⟩, ⟨_, rfl, .inl rfl⟩, ⟨_, rfl, .inl rfl⟩, ⟨_, rfl, .inl rfl⟩, ⟨_, rfl, .inl rfl⟩, ⟨_, rfl, .inl rfl⟩, ⟨_, rfl, .inl rfl⟩, trivial⟩, ⟨.inl rfl, .inl rfl, .inl rfl, .inl rfl, .inr (.inr ⟨_, _, _, _, rfl, rfl, .inr ⟨6, rfl, rfl, Nat.le_refl _⟩, trivial⟩), .inr (.inl ⟨_, _, rfl, Nat.le_refl _⟩), trivial⟩, rfl, rfl⟩ ?_
 rintro ⟨i, b, c, us, μ'⟩ ⟨hi, hle, hrows2⟩
 dsimp only at hi hle hrows2
 have hlen := hrows2.len
 have hp8 := hpo.1
 simp only [List.length_map, List.length_take] at hlen
 refine ifd (fun hlt => ?_) (fun hlt => ?_)
 ·have w_ := aSo (l := p.rels) (i := i) (by omega)
  obtain ⟨x2, hx2⟩ := w_
  have w_ := Rl.elemA (hrl.mono (hle1.trans hle)) hx2
  obtain ⟨ad, q2, hel, hr2, hb⟩ := w_
  have hb : RepV μ' x2.body.d (.agg (x2.body.cs q2).toArray) := hb
  refine eIn hel ?_
  intro r5b
  refine cPl (l13Copy_mild x2.body hb (Gl.Sh.mild _ (hpo.2 i x2 hx2).body)) fun v2 μ2 hle2 hR => ?_
  have w_ := Gl.invV hR
  obtain ⟨q3, rfl⟩ := w_
  intro r26
  refine gIn ?_ ?_ fun b' c' _ => ?_
  ·show (us.length + 1) * 104 ≤ _; omega
  ·exact Nat.le_trans (m := 100000000) (show us.length + 1 ≤ _ by omega) (by decide)
  refine num64 (by omega) (by omega) ⟨(i + 1, b', c', _, μ2), ⟨by dsimp only; omega, hle.trans hle2, ?_⟩, by dsimp only; omega, ⟨⟨rfl, rfl, rfl, rfl, rfl, rfl, rfl, rfl, rfl, rfl, rfl, trivial⟩, ⟨rfl, rfl, rfl, rfl, rfl, rfl, trivial⟩, rfl, rfl⟩⟩
  dsimp only
  rw [List.take_add_one, hx2, Option.toList_some]
  simp only [List.map_append, List.map_cons, List.map_nil]
  refine (hrows2.mono hle2).append (Rows.one ?_ (Rl.d_n _))
  rw [Rl.d_eq]
  exact ⟨_, rfl, RepS.str (RepS.int (RepS.int (RepS.last (RepV.cells hR))))⟩
 obtain rfl : i = p.rels.length := by omega
 rw [List.take_length] at hrows2
 have hbs := spc_ok (k := a) (m := m) hx (by omega)
 have hmn : (r.arity + r.locals).toNat = m := by omega
 refine call_frz [4] ?_
 intro μ2 hle2 hno2 hat2
 have hsl0 := Rows.sl hat2 (hrows.mono (hle.trans hle2)) (Nat.le_trans (m := 100000000) (by omega) (by decide))
 have w_ := Rep.sl hsl0
 obtain ⟨b0, c0, eb0, hsl⟩ := w_
 rw [List.length_map, List.length_map, valsB_len, hvl] at eb0 hsl
 obtain ⟨rfl, -, rfl⟩ := Value.slice.inj eb0
 have hL13 := l13Put_spec (bs := valsB (spcV a m x)) (c0 := co) r.body (RepV.mono (hle.trans hle2) hbody) hro.body (by rw [valsB_len, hvl]; exact hsl)
 rw [valsB_len, hvl] at hL13
 rw [hyl]
 refine call_go hL13 fun v3 μ3 hle3 hR3 => ?_
 have w_ := Gl.invV hR3
 obtain ⟨q4, rfl⟩ := w_
 have hmild := put_mild (f := sub (valsB (spcV a m x))) r.body hro.body
 have hlong := put_long (f := sub (valsB (spcV a m x))) (nm := nm) (show relAt p nm = (k : Int) by omega) hr (show (a : Int) < r.arity by omega) r.body hro.calls
 refine cPl (l34Fold_spec (sp := sp) _ hR3 hmild hlong (RepV.mono (hle1.trans (hle.trans (hle2.trans hle3))) ht0)) fun v4 μ4 hle4 hR4 => ?_
 have w_ := Gl.invV hR4
 obtain ⟨q5, rfl⟩ := w_
 intro r19
 refine num64 (by omega) (by omega) ?_
 refine cPl (l13Copy_mild _ hR4 (fold_mild _ hmild)) fun v5 μ5 hle5 hR5 => ?_
 have w_ := Gl.invV hR5
 obtain ⟨q6, rfl⟩ := w_
 intro r131
 refine gIn ?_ ?_ fun b' c' _ => ?_
 ·show (us.length + 1) * 104 ≤ _; omega
 ·exact Nat.le_trans (m := 100000000) (show us.length + 1 ≤ _ by omega) (by decide)
 have hrowsN := (hrows2.mono (hle2.trans (hle3.trans (hle4.trans hle5)))).append (Rows.one (d := (Rl.mk sp (r.arity - 1) r.locals (spcBody r nm a x sp)).d) (v := .agg #[.string sp, .int .i64 (r.arity - 1), .int .i64 r.locals, _, _, _, _]) (by
  rw [Rl.d_eq, spcBody, hmn]
  exact ⟨_, rfl, RepS.str (RepS.int (RepS.int (RepS.last (RepV.cells hR5))))⟩) (Rl.d_n _))
 have hsw : sp.size ≤ maxLen := Nat.le_trans hsp (by decide)
 have hPe : p.rels.map Rl.d ++ [(Rl.mk sp (r.arity - 1) r.locals (spcBody r nm a x sp)).d] = (spcP p r nm a x sp).rels.map Rl.d := by
  show _ = (p.rels ++ [_]).map Rl.d
  rw [List.map_append]; rfl
 rw [hPe] at hrowsN
 have hwP : (spcP p r nm a x sp).d.wd := by
  have hw1 : D.wds (p.rels.map Rl.d) := by rw [Pg.d_eq] at hw; exact hw.1
  rw [Pg.d_eq, ← hPe]
  refine ⟨D.wds_of fun d hd => ?_, trivial⟩
  rcases List.mem_append.1 hd with hd | hd
  ·exact D.wds_mem hw1 d hd
  ·rw [List.mem_singleton.1 hd, Rl.d_eq]
   refine ⟨hsw, ⟨show _ ≤ r.arity - 1 by omega, show r.arity - 1 ≤ _ by omega⟩, ⟨show _ ≤ r.locals by omega, show r.locals ≤ _ by omega⟩, ?_, trivial⟩
   exact fold_wd hsw _ (Gl.put_Sh_wd (fun n y h => (sub_ok (spc_ok hx (by omega)) h).1) hro.body)
 refine call_frz [6] ?_
 intro μ6 hle6 hno6 hat6
 have hfin := Pg.repS (Rows.sl hat6 (hrowsN.mono hle6) (Nat.le_trans (m := 100000000) (by simp; omega) (by decide)))
 refine call_go (spec_ProgramOk_spec hfin hwP) fun v7 μ7 hle7 hR7 => ?_
 obtain rfl := hR7
 refine ifnd (fun hbad => ?_) (fun hgood => ?_)
 ·refine rPl ?_
  rw [if_neg hbad]; rfl
 ·refine rPl ?_
  rw [if_pos hgood]
  exact ⟨_, rfl, RepV.mono hle7 hfin⟩
end
end Go.Vx
namespace Go.Vx
open Go.Proofs Classical
section
variable {μ : Mem}
theorem specO_ok {p : Pg} {nm : ByteArray} {arg : Int} {t : Tm} {sp : ByteArray} : ∀ y, specO p nm arg t sp = some y → y.Ok := fun y h => by
 rw [specO] at h
 split at h
 ·split at h
  ·rename_i hk; cases h; exact hk
  ·cases h
 ·cases h
set_option maxHeartbeats 4000000 in
theorem FnExactSpecializeRel_spec {t0 : Pg} {v0 : Value} {t1 : Tm} {v1 : Value} {nm sp : ByteArray} {ar : Int} (h0 : RepV μ t0.d v0) (h1 : RepV μ t1.d v1) (w0 : t0.d.wd) (w1 : t1.d.wd) :
  Spec Tryz.prog 4 [v0, .string nm, .int .i64 ar, v1, .string sp] μ fun r _ => r = .bool true := by
 obtain ⟨p0, rfl⟩ := Pg.invV h0
 obtain ⟨p1, rfl⟩ := Tm.invV h1
 refine Spec.mk Tryz.func4 (by kernel_rfl) ?_
 intro r0 r1
 refine ifd (fun h => rPl rfl) (fun h => ?_)
 refine ifd (fun h => rPl rfl) (fun hn9 => ?_)
 refine cGv (szProgram_spec t0 h0 (by omega) (by omega) w0) ?_
 refine ifd (fun h => rPl rfl) (fun h => ?_)
 have q0 := szR_ge h
 rw [szR_pos q0] at h ⊢
 refine cGv (szTerm_spec t1 h1 (by omega) (by omega) w1) ?_
 refine ifd (fun h => rPl rfl) (fun h => ?_)
 have q1 := szR_ge h
 rw [szR_pos q1] at h
 have hb0 : t0.d.sz ≤ 1048576 := by omega
 have hb1 : t1.d.sz ≤ 1048576 := by omega
 refine cPl (toProgram_spec t0 h0 hb0) fun u1 μ1 hle1 hf1 => ?_
 replace h0 := h0.mono hle1
 replace h1 := h1.mono hle1
 obtain ⟨qq2, rfl⟩ := Pg.invV hf1.rep
 have a0 := hf1.rep
 refine cPl (toTerm_spec t1 h1 hb1) fun u3 μ3 hle3 hf3 => ?_
 replace h0 := h0.mono hle3
 replace h1 := h1.mono hle3
 replace a0 := a0.mono hle3
 obtain ⟨qq4, rfl⟩ := Tm.invV hf3.rep
 have a1 := hf3.rep
 refine cPl (spec_SpecializeRel_spec (nm := nm) (arg := ar) (sp := sp) a0 w0 a1 w1 (by omega)) fun u5 μ5 hle5 hR => ?_
 replace h0 := h0.mono hle5
 replace h1 := h1.mono hle5
 replace a0 := a0.mono hle5
 replace a1 := a1.mono hle5
 obtain ⟨w0, rfl, hw0⟩ := optP_rep hR
 obtain ⟨qq6, rfl⟩ := Pg.invV hw0
 have hw := hw0
 intro rw0
 refine call_new id (apart_nil _) Owns.none ((toProgram_spec t0 (h0.mono (Mem.le_join _ _)) hb0).weaken fun v μ' _ h => ⟨v, rfl, h⟩) fun x0 μ7 H7 hle7 hap7 ho7 => ?_
 replace h0 := h0.mono hle7
 replace h1 := h1.mono hle7
 replace hw := hw.mono hle7
 obtain ⟨qq8, rfl⟩ := Pg.invV (Owns.rep (l1 := []) hap7 ho7)
 have xx0 := (Owns.rep (l1 := []) hap7 ho7)
 intro rx0
 refine call_new id hap7 ho7 ((toTerm_spec t1 (h1.mono (Mem.le_join _ _)) hb1).weaken fun v μ' _ h => ⟨v, rfl, h⟩) fun x1 μ9 H9 hle9 hap9 ho9 => ?_
 replace h0 := h0.mono hle9
 replace h1 := h1.mono hle9
 replace hw := hw.mono hle9
 obtain ⟨qq10, rfl⟩ := Tm.invV (Owns.rep (l1 := [_]) hap9 ho9)
 have xx1 := (Owns.rep (l1 := [_]) hap9 ho9)
 intro rx1
 refine call_new (fun gv => .tuple #[gv, .bool (specO t0 nm ar t1 sp).isSome]) hap9 ho9 ((impl_SpecializeRel_spec (nm := nm) (arg := ar) (sp := sp) (Owns.rep (l1 := []) hap9 ho9) (Owns.rep (l1 := [_]) hap9 ho9)).weaken fun v μ' _ h => optP_fresh h) fun g0 μ11 H11 hle11 hap11 ho11 => ?_
 replace h0 := h0.mono hle11
 replace h1 := h1.mono hle11
 replace hw := hw.mono hle11
 obtain ⟨qq12, rfl⟩ := Pg.invV (Owns.rep (l1 := [_, _]) hap11 ho11)
 have gg := (Owns.rep (l1 := [_, _]) hap11 ho11)
 intro rg0
 refine call_read hap11 (eqProgram_spec _ (Owns.rep (l1 := [_, _]) hap11 ho11) (hw.mono (Mem.le_join _ _))) ?_
 refine iIn (fun h => nomatch h) (fun _ => ?_)
 refine iIn (fun h => absurd h (by simp)) (fun _ => ?_)
 refine cDa hap11 (toProgram_spec t0 h0 hb0) fun u13 μ13 hle13 hap13 hf13 => ?_
 replace h0 := h0.mono hle13
 replace h1 := h1.mono hle13
 replace hw := hw.mono hle13
 refine call_read hap13 (eqProgram_spec t0 (Owns.rep (l1 := []) hap13 ho11) (hf13.rep.mono (Mem.le_join _ _))) ?_
 refine iIn (fun h => nomatch h) (fun _ => ?_)
 refine cDa hap13 (toTerm_spec t1 h1 hb1) fun u14 μ14 hle14 hap14 hf14 => ?_
 replace h0 := h0.mono hle14
 replace h1 := h1.mono hle14
 replace hw := hw.mono hle14
 refine call_read hap14 (eqTerm_spec t1 (Owns.rep (l1 := [_]) hap14 ho11) (hf14.rep.mono (Mem.le_join _ _))) ?_
 refine iIn (fun h => nomatch h) (fun _ => ?_)
 have ca0 := pg_cnt_sz t0
 rw [Pg.cnt_eq] at ca0
 have ma0 := pg_mt t0 (1)
 have ca1 := tm_cnt_sz t1
 rw [Tm.cnt_eq] at ca1
 have ma1 := tm_mt t1 ((t0.d.mt (1)).2)
 have rz := resPg_cnt (o := specO t0 nm ar t1 sp) specO_ok
 have mg := pg_mt (resPg (specO t0 nm ar t1 sp)) 1
 refine call_mark (l1 := []) hap14 ho11 (fun hx o => markProgram_spec t0 o (by omega) (by omega)) fun H15 hap15 ho15 => ?_
 refine call_mark (l1 := [_]) hap15 ho15 (fun hx o => markTerm_spec t1 o (by omega) (by omega)) fun H16 hap16 ho16 => ?_
 refine ifd (fun h => by omega) (fun _ => ?_)
 refine call_read hap16 (eqProgram_spec _ (Owns.rep (l1 := [_, _]) hap16 ho16) (hw.mono (Mem.le_join _ _))) ?_
 refine iIn (fun h => nomatch h) (fun _ => ?_)
 refine iIn (fun h => absurd h (by simp)) (fun _ => ?_)
 refine call_mark (l1 := [_, _]) hap16 ho16 (fun hx o => markProgram_spec _ o (by omega) (by omega)) fun H17 hap17 ho17 => ?_
 refine call_read hap17 (heldProgram_spec _ (Owns.rep (l1 := [_, _]) hap17 ho17) (by omega) (by omega)) ?_
 refine ifd (fun h => by omega) (fun _ => ?_)
 refine ifnd (fun h => absurd rfl h) (fun _ => ?_)
 refine cDa hap17 (toProgram_spec t0 h0 hb0) fun u18 μ18 hle18 hap18 hf18 => ?_
 replace h0 := h0.mono hle18
 replace h1 := h1.mono hle18
 replace hw := hw.mono hle18
 obtain ⟨qq19, rfl⟩ := Pg.invV hf18.rep
 have o0 := hf18.rep
 refine cDa hap18 (toTerm_spec t1 h1 hb1) fun u20 μ20 hle20 hap20 hf20 => ?_
 replace h0 := h0.mono hle20
 replace h1 := h1.mono hle20
 replace hw := hw.mono hle20
 replace o0 := o0.mono hle20
 obtain ⟨qq21, rfl⟩ := Tm.invV hf20.rep
 have o1 := hf20.rep
 refine cDa hap20 ((impl_SpecializeRel_spec (nm := nm) (arg := ar) (sp := sp) o0 o1).weaken fun v μ' _ h => optP_fresh h) fun u22 μ22 hle22 hap22 hR => ?_
 replace h0 := h0.mono hle22
 replace h1 := h1.mono hle22
 replace hw := hw.mono hle22
 replace o0 := o0.mono hle22
 replace o1 := o1.mono hle22
 obtain ⟨h0, rfl, hh0⟩ := hR
 obtain ⟨qq23, rfl⟩ := Pg.invV hh0.rep
 have hh := hh0.rep
 intro rh0
 refine call_read hap22 (eqProgram_spec _ (hh.mono (Mem.le_join _ _)) (hw.mono (Mem.le_join _ _))) ?_
 refine iIn (fun h => nomatch h) (fun _ => ?_)
 refine iIn (fun h => absurd h (by simp)) (fun _ => ?_)
 refine call_read hap22 (heldProgram_spec _ (Owns.rep (l1 := [_, _]) hap22 ho17) (by omega) (by omega)) ?_
 refine ifd (fun h => by omega) (fun _ => ?_)
 refine ifnd (fun h => absurd rfl h) (fun _ => ?_)
 exact rPl rfl
end
end Go.Vx
