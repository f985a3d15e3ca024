/- Contracts: lists of bindings, and the reference's substitutions. -/
import Derived.Test.YtjgohkogcdmbdaaVp
import Derived.Test.YtjgohkogcdmbdaaVi
namespace Go.Vx
open Go.Proofs Classical
/-! ### Plain -/
noncomputable def Tm.toT (t : Tm) : T := if h : ∃ x : T, x.tm = t then h.choose else .nil
theorem T.toT_tm (x : T) : x.tm.toT = x := by
  have h : ∃ y : T, y.tm = x.tm := ⟨x, rfl⟩
  rw [Tm.toT, dif_pos h]
  exact T.tm_inj h.choose_spec
theorem Tm.Ok.toT {t : Tm} (h : t.Ok) : t.toT.ok ∧ t.toT.tm = t := by
  obtain ⟨x, h1, rfl⟩ := h.lift
  rw [T.toT_tm]; exact ⟨h1, rfl⟩
structure B where
  var : Int
  to : T
def B.bd (b : B) : Bd := ⟨b.var, b.to.tm⟩
noncomputable def Bd.b (b : Bd) : B := ⟨b.var, b.to.toT⟩
/-- Binding i of a list is fine. -/
def okAt (l : List Bd) (i : Nat) (b : Bd) : Prop := (0 ≤ b.var ∧ b.var ≤ 100000) ∧ b.to.Ok ∧ ∀ j c, j + 1 = i → l[j]? = some c → c.var < b.var
def valsOk (l : List Bd) : Prop := l.length ≤ 400 ∧ ∀ i b, l[i]? = some b → okAt l i b
theorem valsOk.lift {l : List Bd} (h : valsOk l) : (l.map Bd.b).map B.bd = l ∧ (∀ b ∈ l.map Bd.b, b.to.ok) := by
  have h2 : ∀ b ∈ l, b.to.Ok := fun b hb => by
    obtain ⟨i, hi⟩ := List.mem_iff_getElem?.1 hb
    exact (h.2 i b hi).2.1
  clear h
  induction l with
  | nil => simp
  | cons b l ih =>
    have h1 := (h2 b (by simp)).toT
    obtain ⟨i1, i2⟩ := ih fun b hb => h2 b (by simp [hb])
    refine ⟨?_, ?_⟩
    · simp only [List.map_cons, i1, List.cons.injEq, and_true, Bd.b, B.bd, h1.2]
    · intro c hc
      simp only [List.map_cons, List.mem_cons] at hc
      rcases hc with rfl | hc
      · exact h1.1
      · exact i2 c hc
def sub : List B → Int → Option T
  | [], _ => none
  | b :: r, n => if b.var = n then some b.to else sub r n
def T.subst (f : Int → Option T) : T → T
  | .var n => (f n).getD (.var n)
  | .pair a b => .pair (a.subst f) (b.subst f)
  | .nil => .nil
  | .sym s => .sym s
  | .num n => .num n
theorem drop_at {α : Type} {l : List α} {i : Nat} {a : α} (h : l[i]? = some a) : l.drop i = a :: l.drop (i + 1) := by
  obtain ⟨h1, h2⟩ := List.getElem?_eq_some_iff.1 h
  rw [List.drop_eq_getElem_cons h1, h2]
/-- A term and whether it is one. -/
def optV (P : T → Value → Prop) (o : Option T) (v : Value) : Prop := match o with
  | some y => ∃ tv, v = .tuple #[tv, .bool true] ∧ P y tv
  | none => v = .tuple #[.agg #[.int .i64 0, .int .i64 0, .string ⟨#[]⟩, .slice none 0 0], .bool false]
section
variable {μ : Mem}
theorem T.fits (x : T) : (upTo (x.size : Int) 5000 ≤ 5000) ↔ x.size ≤ 5000 := by unfold upTo; omega
/-- An element's term. -/
theorem Bd.toV {b : Bd} {p : Option Addr × Nat} (h : RepV μ b.d (.agg (b.cs p).toArray)) : RepV μ b.to.d (.agg (b.to.cs p).toArray) := by
  obtain ⟨q, e, hto⟩ := Bd.inv h
  have hq : q = p := by
    have h2 := congrArg (fun v => match v with | Value.agg a => a[4]? | _ => none) e
    simp [Bd.cs] at h2
    exact Prod.ext h2.1.symm h2.2.symm
  rw [← hq]; exact hto
/-! ### The reference's -/
theorem l02Pair_spec {a b : T} {va vb : Value} (ha : RepV μ a.tm.d va) (hb : RepV μ b.tm.d vb) : Spec Try.prog 94 [va, vb] μ fun v μ' => RepV μ' (T.pair a b).tm.d v := by
  obtain ⟨p, rfl⟩ := Tm.invV ha
  obtain ⟨q, rfl⟩ := Tm.invV hb
  refine Spec.mk Try.func94 (by kernel_rfl) ?_
  intro r1 r2 r3 r4
  refine ret_frz [3] fun μ' hle hno hrow => .inl ?_
  rw [T.tm, Tm.d_mk]
  exact ⟨_, rfl, RepS.int (RepS.int (RepS.str (RepS.last (Rows.sl hrow (.cons (ha.mono hle) (Tm.d_n _) (.cons (hb.mono hle) (Tm.d_n _) .nil)) (show 2 ≤ maxLen by decide)))))⟩
theorem l02Fits_spec (x : T) {v : Value} (hv : RepV μ x.tm.d v) : Gives Try.prog 83 [v] μ (.bool (decide (x.size ≤ 5000))) := by
  obtain ⟨p, rfl⟩ := Tm.invV hv
  refine Spec.mk Try.func83 (by kernel_rfl) ?_
  intro r
  refine call_gives (l02Count_spec x.tm hv (by decide) (by decide)) (ret_gives ?_ rfl)
  rw [T.cnt_tm]
  exact isI (T.fits x)
theorem l04Get_spec {bs : List B} {base : Option Addr} {cap : Nat} {n : Int} (hsl : Sl μ 5 base bs.length ((bs.map B.bd).map Bd.d)) :
    Spec Try.prog 88 [.slice base bs.length cap, .int .i64 n] μ fun v μ' => optV (fun y tv => RepV μ y.tm.d tv) (sub bs n) v ∧ μ' = μ := by
  have hn := maxLen_le hsl.max
  refine Spec.mk Try.func88 (by kernel_rfl) ?_
  intro r
  refine loop_intro (fun i : Nat => i ≤ bs.length ∧ sub bs n = sub (bs.drop i) n) (fun i => ⟨[(1, .val (.int .i64 n)), (4, .loc 0 r 0), (8, .val (.slice base bs.length cap)), (9, .val (.int .i64 bs.length)), (10, .val (.int .i64 i))], [(0, some (.cells r [.val (.int .i64 0), .val (.int .i64 0), .val (.string ⟨#[]⟩), .val (.slice none 0 0)] 50))], 1, μ, Mem.nil⟩) (fun i => bs.length - i)
    0 ⟨by omega, rfl⟩ (fun i => ⟨rfl, rfl⟩) ⟨⟨rfl, rfl, rfl, rfl, rfl, trivial⟩, ⟨rfl, trivial⟩, rfl, rfl⟩ ?_
  rintro i ⟨hi, he⟩
  refine ifd (fun h => ?_) (fun h => ?_)
  · obtain ⟨b, hb⟩ := at_some (l := bs) (i := i) (by omega)
    have hb' : (bs.map B.bd)[i]? = some b.bd := by simp [hb]
    obtain ⟨ad, p, hel, hr⟩ := Bd.elem hsl hb'
    have hto := Bd.toV hr
    rw [drop_at hb] at he
    refine elem_intro hel ?_
    intro r2
    refine ifd (fun h2 => ?_) (fun h2 => ?_)
    · have h2 : b.var = n := h2
      have e2 : sub bs n = some b.to := by rw [he, sub, if_pos h2]
      rw [e2]
      exact ret_plain ⟨⟨_, rfl, hto⟩, rfl⟩
    · have h2 : ¬ b.var = n := h2
      have e2 : sub bs n = sub (bs.drop (i + 1)) n := by rw [he, sub, if_neg h2]
      exact num64 (by omega) (by omega) ⟨i + 1, ⟨by omega, e2⟩, by omega, ⟨⟨rfl, rfl, rfl, rfl, rfl, trivial⟩, ⟨rfl, trivial⟩, rfl, rfl⟩⟩
  · obtain rfl : i = bs.length := by omega
    rw [List.drop_length] at he
    rw [he]
    exact ret_plain ⟨rfl, rfl⟩
theorem l04Put_spec {bs : List B} {base : Option Addr} {cap : Nat} : ∀ (x : T) {μ : Mem} {v : Value}, Sl μ 5 base bs.length ((bs.map B.bd).map Bd.d) → RepV μ x.tm.d v →
    Spec Try.prog 82 [.slice base bs.length cap, v] μ fun v μ' => RepV μ' (x.subst (sub bs)).tm.d v := by
  intro x
  induction x with
  | var n =>
    intro μ v hsl hv
    obtain ⟨p, rfl⟩ := Tm.invV hv
    refine Spec.mk Try.func82 (by kernel_rfl) ?_
    intro r1 r2
    refine ifd (fun _ => ?_) (fun h => absurd rfl h)
    refine call_plain (l04Get_spec hsl) fun v' μ' hle hR => ?_
    obtain ⟨hR, e2⟩ := hR
    obtain rfl := e2.symm
    have hR : optV (fun y tv => RepV μ y.tm.d tv) (sub bs n) v' := hR
    simp only [T.subst]
    cases hs : sub bs n with
    | some y =>
      rw [hs] at hR
      obtain ⟨tv, rfl, htv⟩ := hR
      obtain ⟨q, rfl⟩ := Tm.invV htv
      intro r3
      refine if_intro (fun _ => ret_plain htv) (fun h => nomatch h)
    | none =>
      rw [hs] at hR
      obtain rfl := hR
      intro r3
      refine if_intro (fun h => nomatch h) (fun _ => ?_)
      refine ifd (fun h => absurd h (by simp [T.tm, Tm.kind])) (fun _ => ?_)
      exact ret_plain hv
  | pair a b iha ihb =>
    intro μ v hsl hv
    obtain ⟨base', cap', rfl, hsa⟩ := Tm.inv hv
    obtain ⟨ad, ad', p, p', h1, h2, hra, hrb⟩ := T.parts hsa
    refine Spec.mk Try.func82 (by kernel_rfl) ?_
    intro r1 r2
    refine ifd (fun h => absurd h (by simp [T.tm, Tm.kind])) (fun _ => ?_)
    refine ifd (fun _ => ?_) (fun h => absurd rfl h)
    refine elem_intro h1 ?_
    refine elem_intro h2 ?_
    refine call_plain (iha hsl hra) fun v1 μ1 hle1 hR1 => ?_
    refine call_plain (ihb (hsl.mono hle1) (hrb.mono hle1)) fun v2 μ2 hle2 hR2 => ?_
    refine call_plain (l02Pair_spec (hR1.mono hle2) hR2) fun v3 μ3 hle3 hR3 => ?_
    obtain ⟨q, rfl⟩ := Tm.invV hR3
    exact ret_plain hR3
  | _ =>
    intro μ v hsl hv
    obtain ⟨p, rfl⟩ := Tm.invV hv
    refine Spec.mk Try.func82 (by kernel_rfl) ?_
    intro r1 r2
    refine ifd (fun h => absurd h (by simp [T.tm, Tm.kind])) (fun _ => ?_)
    refine ifd (fun h => absurd h (by simp [T.tm, Tm.kind])) (fun _ => ?_)
    exact ret_plain hv
theorem l04Apply_spec {bs : List B} {base : Option Addr} {cap : Nat} (x : T) {v : Value} (hsl : Sl μ 5 base bs.length ((bs.map B.bd).map Bd.d)) (hv : RepV μ x.tm.d v) :
    Spec Try.prog 54 [.slice base bs.length cap, v] μ fun v μ' => ∃ tv, v = .tuple #[tv, .bool (decide ((x.subst (sub bs)).size ≤ 5000))] ∧ RepV μ' (x.subst (sub bs)).tm.d tv := by
  obtain ⟨p, rfl⟩ := Tm.invV hv
  refine Spec.mk Try.func54 (by kernel_rfl) ?_
  intro r1 r2
  refine call_plain (l04Put_spec x hsl hv) fun v1 μ1 hle1 hR1 => ?_
  obtain ⟨q, rfl⟩ := Tm.invV hR1
  intro r3
  refine call_gives (l02Fits_spec _ hR1) ?_
  exact ret_plain ⟨_, rfl, hR1⟩
end
end Go.Vx
