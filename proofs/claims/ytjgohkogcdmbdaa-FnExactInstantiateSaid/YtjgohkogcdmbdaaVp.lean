/- Contracts: sets of numbers; the variables of a term as the reference lists them. -/
import Derived.Test.YtjgohkogcdmbdaaVo
namespace Go.Vx
open Go.Proofs Classical
def ints (l : List Int) : List Value := l.map fun n => .int .i64 n
theorem ints_flat : ∀ l : List Int, (ints l).flatMap vcells = ints l
  | [] => rfl
  | n :: l => by
    have := ints_flat l
    simp only [ints] at this ⊢
    simp [this, vcells]
section
variable {μ : Mem}
theorem Ints.elem {l : List Int} {base : Option Addr} {n : Nat} (h : Sl μ 1 base n (l.map D.i)) {i : Nat} {x : Int} (hx : l[i]? = some x) : ∃ ad, ElemAt μ base n 1 i ad [.int .i64 x] := by
  obtain ⟨ad, cs, h1, h2⟩ := h.get i (.i x) (by simp [hx])
  have h2 : cs = [.int .i64 x] := h2
  subst h2
  exact ⟨ad, h1⟩
theorem Ints.rows : ∀ l : List Int, Rows μ 1 (l.map D.i) (ints l)
  | [] => .nil
  | n :: l => .cons (show RepV μ (.i n) (.int .i64 n) from rfl) rfl (Ints.rows l)
theorem Ints.sl {b : Option Nat} {cap : Nat} {l : List Int} (h : RowAt μ b cap 1 (ints l)) (hm : l.length ≤ maxLen) : RepV μ (.sl 1 (l.map D.i)) (.slice (b.map fun r => ⟨r, 0, none⟩) (ints l).length cap) :=
  Rows.sl h (Ints.rows l) (by simpa [ints] using hm)
theorem Ints.src {l : List Int} {base : Option Addr} (h : Sl μ 1 base l.length (l.map D.i)) {a b cap : Nat} (hab : a ≤ b) (hb : b ≤ l.length) (hc : l.length ≤ cap) : SrcAt μ (if cap = a then base else base.map (·.add (a * 1))) (b - a) 1 (ints ((l.drop a).take (b - a))) := by
  refine ⟨by simp [ints]; omega, fun y hy => ?_, ?_⟩
  · obtain ⟨n, _, rfl⟩ := List.mem_map.1 hy
    exact ⟨rfl, fun u hu => by simp [vcells] at hu; subst hu; rfl⟩
  · rcases Nat.eq_or_lt_of_le hab with h0 | h0
    · exact .inl (by omega)
    · right
      obtain ⟨x, hx⟩ := at_some (l := l) (i := a) (by omega)
      obtain ⟨_, hel⟩ := Ints.elem h hx
      obtain ⟨a0, e, _⟩ := hel.addr
      refine ⟨a0.add (a * 1), by rw [if_neg (by omega), e]; rfl, fun j v hj => ?_⟩
      rw [ints_flat] at hj
      simp only [ints, List.getElem?_map] at hj
      obtain ⟨y, hy, rfl⟩ := Option.map_eq_some_iff.1 hj
      rw [List.getElem?_take] at hy
      split at hy
      · rw [List.getElem?_drop] at hy
        obtain ⟨ad, hel2⟩ := Ints.elem h hy
        obtain ⟨a1, e1, e2⟩ := hel2.addr
        rw [e] at e1
        cases e1
        have := hel2.cell 0 _ rfl
        rw [e2, add_add] at this
        rw [add_add]
        rw [← this]
        congr 2
        simp
        omega
      · cases hy
def insInt (l : List Int) (n : Int) (k : Nat) : List Int := l.take k ++ ([n] ++ l.drop k)
theorem insInt_mem (l : List Int) (n : Int) (k : Nat) (x : Int) : x ∈ insInt l n k ↔ x = n ∨ x ∈ l := by
  have := List.take_append_drop k l
  have h2 : x ∈ l ↔ x ∈ l.take k ∨ x ∈ l.drop k := by rw [← List.mem_append, this]
  simp only [insInt, List.mem_append, List.mem_singleton, h2]
  constructor
  · rintro (h | h | h) <;> simp [h]
  · rintro (h | h | h) <;> simp [h]
/-- A list of numbers, out of an insertion. -/
def InsOf (μ' : Mem) (l : List Int) (n : Int) (v : Value) : Prop := ∃ r : List Int, RepV μ' (.sl 1 (r.map D.i)) v ∧ (∀ x, x ∈ r ↔ x = n ∨ x ∈ l) ∧ r.length ≤ l.length + 1
theorem l02Insert_spec {l : List Int} {v : Value} {n : Int} (hv : RepV μ (.sl 1 (l.map D.i)) v) (hb : l.length ≤ 1000000000) : Spec Try.prog 93 [v, .int .i64 n] μ fun v μ' => InsOf μ' l n v := by
  obtain ⟨base, cap, rfl, hsl⟩ := Rep.sl hv
  have hcap := Rep.lens hv
  rw [List.length_map] at hsl hcap hv ⊢
  refine Spec.mk Try.func93 (by kernel_rfl) ?_
  refine loop_intro (fun k : Nat => k ≤ l.length) (fun k => ⟨[(0, .val (.slice base l.length cap)), (1, .val (.int .i64 n)), (5, .val (.int .i64 k))], [], 0, μ, Mem.nil⟩) (fun k => k)
    l.length (Nat.le_refl _) (fun i => ⟨rfl, rfl⟩) ⟨⟨rfl, rfl, rfl, trivial⟩, trivial, rfl, rfl⟩ ?_
  intro k hk
  refine ifd (fun h1 => ?_) (fun h1 => ?_)
  · obtain ⟨x, hx⟩ := at_some (l := l) (i := k - 1) (by omega)
    obtain ⟨ad, hel⟩ := Ints.elem hsl hx
    refine num_eq (x := ((k - 1 : Nat) : Int)) (by rw [wrap64 (by omega) (by omega)]; omega) ?_
    refine elem_intro hel ?_
    refine ifd (fun h2 => ?_) (fun h2 => ?_)
    · exact num_eq (x := ((k - 1 : Nat) : Int)) (by rw [wrap64 (by omega) (by omega)]; omega) ⟨k - 1, by omega, by omega, ⟨⟨rfl, rfl, rfl, trivial⟩, trivial, rfl, rfl⟩⟩
    · refine ifd (fun h3 => ?_) (fun h3 => ?_)
      · obtain ⟨y, hy⟩ := at_some (l := l) (i := k) (by omega)
        obtain ⟨ad2, hel2⟩ := Ints.elem hsl hy
        refine elem_intro hel2 ?_
        refine ifd (fun h4 => ret_plain ⟨l, hv, fun x => ⟨.inr, fun hx => hx.elim (fun e => by rw [e, ← h4]; exact mem_at hy) id⟩, by omega⟩) (fun h4 => ?_)
        intro r0
        refine cut_intro 0 k rfl rfl (by omega) (by omega) ?_
        refine src_intro _ (Ints.src hsl (a := 0) (b := k) (by omega) hk hcap) ?_
        refine grow_intro ?_ ?_ fun b1 c1 _ => ?_
        · show (0 + (ints _).length) * 8 ≤ _; simp [ints]; omega
        · show 0 + (ints _).length ≤ 9223372036854775807; simp [ints]; omega
        intro r1
        refine grow_intro ?_ ?_ fun b2 c2 _ => ?_
        · show (([] ++ ints _).length + 1) * 8 ≤ _; simp [ints]; omega
        · show ([] ++ ints _).length + 1 ≤ 9223372036854775807; simp [ints]; omega
        refine cut_intro k l.length rfl rfl hk (by omega) ?_
        refine src_intro _ (Ints.src hsl (a := k) (b := l.length) hk (Nat.le_refl _) hcap) ?_
        refine grow_intro ?_ ?_ fun b3 c3 _ => ?_
        · show (([] ++ ints _ ++ [_]).length + (ints _).length) * 8 ≤ _; simp [ints]; omega
        · show ([] ++ ints _ ++ [_]).length + (ints _).length ≤ 9223372036854775807; simp [ints]; omega
        refine ret_frz [0] fun μ' hle hno hrow => .inl ⟨insInt l n k, ?_, insInt_mem l n k, ?_⟩
        · have e : [] ++ ints ((l.drop 0).take (k - 0)) ++ [.int .i64 n] ++ ints ((l.drop k).take (l.length - k)) = ints (insInt l n k) := by
            simp [ints, insInt]
            rw [List.take_of_length_le (by simp)]
          rw [e] at hrow ⊢
          exact Ints.sl hrow (Nat.le_trans (m := 2000000000) (by simp [insInt]; omega) (by decide))
        · simp [insInt]; omega
      · intro r0
        refine cut_intro 0 k rfl rfl (by omega) (by omega) ?_
        refine src_intro _ (Ints.src hsl (a := 0) (b := k) (by omega) hk hcap) ?_
        refine grow_intro ?_ ?_ fun b1 c1 _ => ?_
        · show (0 + (ints _).length) * 8 ≤ _; simp [ints]; omega
        · show 0 + (ints _).length ≤ 9223372036854775807; simp [ints]; omega
        intro r1
        refine grow_intro ?_ ?_ fun b2 c2 _ => ?_
        · show (([] ++ ints _).length + 1) * 8 ≤ _; simp [ints]; omega
        · show ([] ++ ints _).length + 1 ≤ 9223372036854775807; simp [ints]; omega
        refine cut_intro k l.length rfl rfl hk (by omega) ?_
        refine src_intro _ (Ints.src hsl (a := k) (b := l.length) hk (Nat.le_refl _) hcap) ?_
        refine grow_intro ?_ ?_ fun b3 c3 _ => ?_
        · show (([] ++ ints _ ++ [_]).length + (ints _).length) * 8 ≤ _; simp [ints]; omega
        · show ([] ++ ints _ ++ [_]).length + (ints _).length ≤ 9223372036854775807; simp [ints]; omega
        refine ret_frz [0] fun μ' hle hno hrow => .inl ⟨insInt l n k, ?_, insInt_mem l n k, ?_⟩
        · have e : [] ++ ints ((l.drop 0).take (k - 0)) ++ [.int .i64 n] ++ ints ((l.drop k).take (l.length - k)) = ints (insInt l n k) := by
            simp [ints, insInt]
            rw [List.take_of_length_le (by simp)]
          rw [e] at hrow ⊢
          exact Ints.sl hrow (Nat.le_trans (m := 2000000000) (by simp [insInt]; omega) (by decide))
        · simp [insInt]; omega
  · refine ifd (fun h3 => ?_) (fun h3 => ?_)
    · obtain ⟨y, hy⟩ := at_some (l := l) (i := k) (by omega)
      obtain ⟨ad2, hel2⟩ := Ints.elem hsl hy
      refine elem_intro hel2 ?_
      refine ifd (fun h4 => ret_plain ⟨l, hv, fun x => ⟨.inr, fun hx => hx.elim (fun e => by rw [e, ← h4]; exact mem_at hy) id⟩, by omega⟩) (fun h4 => ?_)
      intro r0
      refine cut_intro 0 k rfl rfl (by omega) (by omega) ?_
      refine src_intro _ (Ints.src hsl (a := 0) (b := k) (by omega) hk hcap) ?_
      refine grow_intro ?_ ?_ fun b1 c1 _ => ?_
      · show (0 + (ints _).length) * 8 ≤ _; simp [ints]; omega
      · show 0 + (ints _).length ≤ 9223372036854775807; simp [ints]; omega
      intro r1
      refine grow_intro ?_ ?_ fun b2 c2 _ => ?_
      · show (([] ++ ints _).length + 1) * 8 ≤ _; simp [ints]; omega
      · show ([] ++ ints _).length + 1 ≤ 9223372036854775807; simp [ints]; omega
      refine cut_intro k l.length rfl rfl hk (by omega) ?_
      refine src_intro _ (Ints.src hsl (a := k) (b := l.length) hk (Nat.le_refl _) hcap) ?_
      refine grow_intro ?_ ?_ fun b3 c3 _ => ?_
      · show (([] ++ ints _ ++ [_]).length + (ints _).length) * 8 ≤ _; simp [ints]; omega
      · show ([] ++ ints _ ++ [_]).length + (ints _).length ≤ 9223372036854775807; simp [ints]; omega
      refine ret_frz [0] fun μ' hle hno hrow => .inl ⟨insInt l n k, ?_, insInt_mem l n k, ?_⟩
      · have e : [] ++ ints ((l.drop 0).take (k - 0)) ++ [.int .i64 n] ++ ints ((l.drop k).take (l.length - k)) = ints (insInt l n k) := by
          simp [ints, insInt]
          rw [List.take_of_length_le (by simp)]
        rw [e] at hrow ⊢
        exact Ints.sl hrow (Nat.le_trans (m := 2000000000) (by simp [insInt]; omega) (by decide))
      · simp [insInt]; omega
    · intro r0
      refine cut_intro 0 k rfl rfl (by omega) (by omega) ?_
      refine src_intro _ (Ints.src hsl (a := 0) (b := k) (by omega) hk hcap) ?_
      refine grow_intro ?_ ?_ fun b1 c1 _ => ?_
      · show (0 + (ints _).length) * 8 ≤ _; simp [ints]; omega
      · show 0 + (ints _).length ≤ 9223372036854775807; simp [ints]; omega
      intro r1
      refine grow_intro ?_ ?_ fun b2 c2 _ => ?_
      · show (([] ++ ints _).length + 1) * 8 ≤ _; simp [ints]; omega
      · show ([] ++ ints _).length + 1 ≤ 9223372036854775807; simp [ints]; omega
      refine cut_intro k l.length rfl rfl hk (by omega) ?_
      refine src_intro _ (Ints.src hsl (a := k) (b := l.length) hk (Nat.le_refl _) hcap) ?_
      refine grow_intro ?_ ?_ fun b3 c3 _ => ?_
      · show (([] ++ ints _ ++ [_]).length + (ints _).length) * 8 ≤ _; simp [ints]; omega
      · show ([] ++ ints _ ++ [_]).length + (ints _).length ≤ 9223372036854775807; simp [ints]; omega
      refine ret_frz [0] fun μ' hle hno hrow => .inl ⟨insInt l n k, ?_, insInt_mem l n k, ?_⟩
      · have e : [] ++ ints ((l.drop 0).take (k - 0)) ++ [.int .i64 n] ++ ints ((l.drop k).take (l.length - k)) = ints (insInt l n k) := by
          simp [ints, insInt]
          rw [List.take_of_length_le (by simp)]
        rw [e] at hrow ⊢
        exact Ints.sl hrow (Nat.le_trans (m := 2000000000) (by simp [insInt]; omega) (by decide))
      · simp [insInt]; omega
theorem flatMap_take_le {α β : Type} (f : α → List β) (l : List α) (i : Nat) : ((l.take i).flatMap f).length ≤ (l.flatMap f).length := by
  have := congrArg (fun l => (l.flatMap f).length) (List.take_append_drop i l)
  simp only [List.flatMap_append, List.length_append] at this
  omega
/-- What a call has made may be forgotten. -/
theorem Spec.forget {P : Program} {f : FuncId} {args : List Value} {R : Value → Prop} (h : Spec P f args μ fun v _ => R v) : Spec P f args μ fun v μ' => R v ∧ μ' = μ := by
  refine ⟨h.1, fun w hm hh hap => (h.2 w hm hh hap).mono ?_⟩
  rintro e w' ⟨v, μ', h', rfl, hr, hS⟩
  exact ⟨v, μ, Mem.nil, rfl, ⟨hr, rfl⟩, ⟨Mem.Le.refl μ, hS.mem.le hS.le, holds_nil w', apart_nil _, fun b h1 h2 => absurd h1 h2, fun b hb => absurd rfl hb, hS.size, hS.keep, hS.os, hS.tape, hS.output⟩⟩
/-- The parts of a term. -/
def T.args : T → List T
  | .pair a b => [a, b]
  | .nil => []
  | .var _ => []
  | .sym _ => []
  | .num _ => []
theorem T.ind {p : T → Prop} (h : ∀ x : T, (∀ y ∈ x.args, p y) → p x) : ∀ x, p x
  | .pair a b => by
    have ha := T.ind h a
    have hb := T.ind h b
    refine h _ fun y hy => ?_
    simp only [T.args, List.mem_cons, List.not_mem_nil, or_false] at hy
    rcases hy with rfl | rfl
    · exact ha
    · exact hb
  | .nil => h _ fun y hy => by simp [T.args] at hy
  | .var _ => h _ fun y hy => by simp [T.args] at hy
  | .sym _ => h _ fun y hy => by simp [T.args] at hy
  | .num _ => h _ fun y hy => by simp [T.args] at hy
theorem T.tm_args (x : T) : x.tm.args = x.args.map T.tm := by cases x <;> rfl
theorem T.vars_args {x : T} (h : x.tm.kind ≠ 1) : x.vars = x.args.flatMap T.vars := by
  cases x <;> simp_all [T.vars, T.args, T.tm, Tm.kind]
theorem T.vars_size : ∀ x : T, x.vars.length ≤ x.size
  | .nil => by simp [T.vars]
  | .var _ => by simp [T.vars, T.size]
  | .sym _ => by simp [T.vars]
  | .num _ => by simp [T.vars]
  | .pair a b => by
    have := T.vars_size a
    have := T.vars_size b
    simp [T.vars, T.size]; omega
/-- A list of numbers that holds a term's variables, beside those of l. -/
def VarsOf (μ' : Mem) (l vs : List Int) (v : Value) : Prop := ∃ r : List Int, RepV μ' (.sl 1 (r.map D.i)) v ∧ (∀ x, x ∈ r ↔ x ∈ vs ∨ x ∈ l) ∧ r.length ≤ l.length + vs.length
theorem l02Vars_spec : ∀ (x : T) {μ : Mem} {l : List Int} {w v : Value}, RepV μ x.tm.d w → RepV μ (.sl 1 (l.map D.i)) v → l.length + x.vars.length ≤ 1000000000 → Spec Try.prog 76 [w, v] μ fun v μ' => VarsOf μ' l x.vars v :=
  T.ind fun x ih μ l w v hw hv hb => by
    obtain ⟨base, cap, rfl, hsl⟩ : ∃ base cap, w = .agg #[.int .i64 x.tm.kind, .int .i64 x.tm.num, .string x.tm.name, .slice base x.args.length cap] ∧ Sl μ 4 base x.args.length ((x.args.map T.tm).map Tm.d) := by
      have h1 := Tm.inv (k := x.tm.kind) (n := x.tm.num) (s := x.tm.name) (l := x.tm.args) (v := w) (by cases x <;> exact hw)
      rw [T.tm_args, List.length_map] at h1
      exact h1
    have hn := maxLen_le hsl.max
    refine Spec.mk Try.func76 (by kernel_rfl) ?_
    intro r
    refine ifd (fun h => ?_) (fun h => ?_)
    · have e : x.vars = [x.tm.num] := by cases x <;> simp_all [T.vars, T.tm, Tm.kind, Tm.num]
      refine call_plain (l02Insert_spec hv (by omega)) fun v' μ' hle hR => ret_plain ?_
      obtain ⟨r, h1, h2, h3⟩ := hR
      exact ⟨r, h1, by simpa [e] using h2, by simpa [e] using h3⟩
    have e := T.vars_args h
    refine loop_intro (fun p : Nat × Value × Mem => p.1 ≤ x.args.length ∧ μ.Le p.2.2 ∧ VarsOf p.2.2 l ((x.args.take p.1).flatMap T.vars) p.2.1)
      (fun (i, v, μ') => ⟨[(1, .val v), (15, .val (.slice base x.args.length cap)), (16, .val (.int .i64 x.args.length)), (17, .val (.int .i64 i))], [], 1, μ', Mem.nil⟩) (fun p => x.args.length - p.1)
      (0, v, μ) ⟨by simp, Mem.Le.refl μ, l, hv, by simp, by simp⟩ (fun (_, _, _) => ⟨rfl, rfl⟩) ⟨⟨rfl, rfl, rfl, rfl, trivial⟩, trivial, rfl, rfl⟩ ?_
    rintro ⟨i, v, μ'⟩ ⟨hi, hle, r, h1, h2, h3⟩
    dsimp only at hi hle h1 h2 h3
    have hpre : ((x.args.take i).flatMap T.vars).length ≤ x.vars.length := by
      rw [e]; exact flatMap_take_le _ _ _
    refine ifd (fun h => ?_) (fun h => ?_)
    · obtain ⟨t, ht⟩ := at_some (l := x.args) (i := i) (by omega)
      have ht' : (x.args.map T.tm)[i]? = some t.tm := by simp [ht]
      obtain ⟨ad, p, hel, hr⟩ := Tm.elem (hsl.mono hle) ht'
      have hsucc : (x.args.take (i + 1)).flatMap T.vars = (x.args.take i).flatMap T.vars ++ t.vars := by
        rw [List.take_add_one, ht, Option.toList_some, List.flatMap_append]; simp
      have hall : ((x.args.take (i + 1)).flatMap T.vars).length ≤ x.vars.length := by
        rw [e]; exact flatMap_take_le _ _ _
      rw [hsucc, List.length_append] at hall
      refine elem_intro hel ?_
      intro r2
      refine call_plain (ih t (mem_at ht) hr h1 (by omega)) fun v' μ'' hle2 hR => ?_
      obtain ⟨q, g1, g2, g3⟩ := hR
      refine num64 (by omega) (by omega) ⟨(i + 1, v', μ''), ⟨by dsimp only; omega, hle.trans hle2, q, g1, fun y => ?_, ?_⟩, by dsimp only; omega, ⟨⟨rfl, rfl, rfl, rfl, trivial⟩, trivial, rfl, rfl⟩⟩
      · dsimp only
        rw [g2, h2, hsucc, List.mem_append]
        constructor
        · rintro (h | h | h) <;> simp [h]
        · rintro ((h | h) | h) <;> simp [h]
      · dsimp only
        rw [hsucc, List.length_append]; omega
    · have hi' : i = x.args.length := by omega
      subst hi'
      rw [List.take_length, ← e] at h2 h3
      exact ret_plain ⟨r, h1, h2, h3⟩
theorem spec_IsGround_spec (x : T) {v : Value} (hv : RepV μ x.tm.d v) (hx : x.ok) (hw : x.tm.d.wd) : Gives Try.prog 48 [v] μ (.bool (decide (x.vars = []))) := by
  obtain ⟨p, rfl⟩ := Tm.invV hv
  have := T.vars_size x
  have := hx.2
  refine Spec.forget (Spec.mk Try.func48 (by kernel_rfl) ?_)
  intro r
  refine call_gives (spec_TermOk_spec x.tm hv hw) ?_
  refine ifd (fun _ => ?_) (fun h => absurd hx.tm h)
  refine call_plain (l02Vars_spec x (l := []) hv (Rep.nilSl 1) (by simp; omega)) fun v' μ' hle hR => ?_
  obtain ⟨r, h1, h2, h3⟩ := hR
  obtain ⟨b, c, rfl, _⟩ := Rep.sl h1
  refine ret_plain (isI ?_)
  rw [List.length_map]
  constructor
  · intro hh
    have : r = [] := List.eq_nil_of_length_eq_zero (by omega)
    subst this
    cases hx : x.vars with
    | nil => rfl
    | cons a l =>
      have := (h2 a).2 (.inl (by simp [hx]))
      simp at this
  · intro hh
    rw [hh] at h3
    simp at h3
    rw [h3]; rfl
end
end Go.Vx
