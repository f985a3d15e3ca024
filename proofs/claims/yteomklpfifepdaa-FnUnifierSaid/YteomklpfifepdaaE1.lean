/- Texts of the proof, part E1. -/
import Derived.Test.YteomklpfifepdaaM4
namespace Go.Vx
open Classical
theorem Sl.headL {μ : Mem} {es n c i : Nat} {base : Option Addr} {xs : List D} (h : Sl μ es base n xs) (hi : i ≤ n) : Sl μ es (if c = 0 then base else base.map (·.add (0 * es))) (i - 0) (xs.take i) := by
 have e : (if c = 0 then base else base.map (·.add (0 * es))) = base := by
  split
  ·rfl
  ·cases base with
   | none => rfl
   | some a => simp [Addr.add]
 rw [e]
 have hl := h.len
 refine ⟨by rw [List.length_take]; omega, Nat.le_trans (by omega) h.max, fun j x hx => ?_⟩
 have hj := (List.getElem?_eq_some_iff.1 hx).1
 rw [List.length_take] at hj
 rw [List.getElem?_take, if_pos (by omega)] at hx
 have w_ := h.get j x hx
 obtain ⟨a, cs, he, hr⟩ := w_
 exact ⟨a, cs, ⟨he.lo, by omega, he.addr, he.len, he.cell⟩, hr⟩
theorem Rep.slC {μ : Mem} {es : Nat} {xs : List D} {v : Value} (h : Rep μ (.sl es xs) [v]) : ∃ base cap, v = .slice base xs.length cap ∧ Sl μ es base xs.length xs ∧ xs.length ≤ cap := by
 have w_ := Rep.sl h
 obtain ⟨b, c, rfl, hs⟩ := w_
 obtain ⟨base, cap, h1, h2, _⟩ := h
 simp only [List.cons.injEq, and_true, Value.slice.injEq, true_and] at h1
 obtain ⟨rfl, rfl⟩ := h1
 exact ⟨b, c, rfl, hs, h2.le⟩
end Go.Vx
namespace Go.Vx
open Go.Proofs Classical
noncomputable def appl (l : List Bd) (t : Tm) : Option T := if substOk l ∧ t.Ok then fit (t.toT.subst (sub (l.map Bd.b))) else none
section
variable {μ : Mem}
theorem impl_ApplySubst_spec {t : Tm} {l : List Bd} {v : Value} {base : Option Addr} {cap : Nat} (hsl : Sl μ 5 base l.length (l.map Bd.d)) (hv : RepV μ t.d v) :
  Spec Try.prog 66 [.slice base l.length cap, v] μ fun v μ' => optV (fun y tv => Fresh μ μ' y.tm.d tv) (appl l t) v := by
 have w_ := Tm.invV hv
 obtain ⟨p, rfl⟩ := w_
 refine Spec.mk Try.func66 (by kernel_rfl) ?_
 intro r1 r2
 refine cGv (impl_SubstOk_spec hsl) ?_
 refine ifnd (fun h => rPl (by rw [appl, if_neg fun k => h k.1]; rfl)) (fun h1 => ?_)
 refine cGv (impl_TermOk_spec t hv) ?_
 refine ifnd (fun h => rPl (by rw [appl, if_neg fun k => h k.2]; rfl)) (fun h2 => ?_)
 obtain ⟨x, _, rfl⟩ := h2.lift
 obtain ⟨bs, rfl, hbs⟩ := h1.subst
 rw [List.length_map] at hsl ⊢
 have hlen := hbs.vals.len
 have e3 : appl (bs.map B.bd) x.tm = fit (x.subst (sub bs)) := by
  rw [appl, if_pos ⟨h1, h2⟩, T.toT_tm, B.map_b]
 rw [e3]
 refine cPl (put_spec x hbs.vals.srt (by omega) hbs.vals.tok hsl hv) fun v1 μ1 hle1 hR => ?_
 cases hf : fit (x.subst (sub bs)) with
 | some y =>
  rw [hf] at hR
  obtain ⟨tv, rfl, htv⟩ := hR
  have w_ := Tm.invV htv.rep
  obtain ⟨q, rfl⟩ := w_
  exact rPl ⟨_, rfl, htv⟩
 | none =>
  rw [hf] at hR
  obtain rfl := hR
  exact rPl rfl
end
end Go.Vx
namespace Go.Vx
open Go.Proofs Classical
def unif (l : List Bd) (a b : Tm) : Prop := ∃ x, appl l a = some x ∧ appl l b = some x
section
variable {μ : Mem}
theorem impl_IsUnifier_spec {l : List Bd} {a b : Tm} {va vb : Value} {base : Option Addr} {cap : Nat} (hsl : Sl μ 5 base l.length (l.map Bd.d)) (ha : RepV μ a.d va) (hb : RepV μ b.d vb) :
  Gives Try.prog 19 [.slice base l.length cap, va, vb] μ (.bool (decide (unif l a b))) := by
  have w_ := Tm.invV ha
  obtain ⟨qa, rfl⟩ := w_
  have w_ := Tm.invV hb
  obtain ⟨qb, rfl⟩ := w_
  refine Spec.forget (Spec.mk Try.func19 (by kernel_rfl) ?_)
  intro r1 r2
  refine cPl (impl_ApplySubst_spec hsl ha) fun v1 μ1 hle1 hR1 => ?_
  have w_ := optV_fresh hR1
  obtain ⟨tv1, rfl, hf1⟩ := w_
  have w_ := Tm.invV hf1.rep
  obtain ⟨p1, rfl⟩ := w_
  intro r7
  refine cPl (impl_ApplySubst_spec (hsl.mono hle1) (hb.mono hle1)) fun v2 μ2 hle2 hR2 => ?_
  have w_ := optV_fresh hR2
  obtain ⟨tv2, rfl, hf2⟩ := w_
  have w_ := Tm.invV hf2.rep
  obtain ⟨p2, rfl⟩ := w_
  intro r9
  cases e1 : appl l a with
  | none => exact iIn (fun h => nomatch h) (fun _ => rPl (isF fun ⟨x, k, _⟩ => by rw [e1] at k; cases k))
  | some x1 =>
   refine iIn (fun _ => ?_) (fun h => nomatch h)
   cases e2 : appl l b with
   | none => exact iIn (fun h => nomatch h) (fun _ => rPl (isF fun ⟨x, _, k⟩ => by rw [e2] at k; cases k))
   | some x2 =>
    refine iIn (fun _ => ?_) (fun h => nomatch h)
    rw [e1] at hf1
    rw [e2] at hf2
    refine cGv (equalTerms_spec x1 x2 (hf1.rep.mono hle2) hf2.rep) (rPl (isI ?_))
    unfold unif
    rw [e1, e2]
    constructor
    ·rintro rfl; exact ⟨_, rfl, rfl⟩
    ·rintro ⟨x, k1, k2⟩; cases k1; cases k2; rfl
end
end Go.Vx
namespace Go.Vx
open Go.Proofs Classical
def T.hgt : T → Nat
 | .pair a b => 1 + max a.hgt b.hgt
 | _ => 0
theorem T.size_hgt : ∀ t : T, t.size + 1 ≤ 2 ^ (t.hgt + 1)
 | .pair a b => by
  have h1 := T.size_hgt a
  have h2 := T.size_hgt b
  have h3 : 2 ^ (a.hgt + 1) ≤ 2 ^ (max a.hgt b.hgt + 1) := Nat.pow_le_pow_right (by decide) (by omega)
  have h4 : 2 ^ (b.hgt + 1) ≤ 2 ^ (max a.hgt b.hgt + 1) := Nat.pow_le_pow_right (by decide) (by omega)
  have h5 : 2 ^ (max a.hgt b.hgt + 1 + 1) = 2 ^ (max a.hgt b.hgt + 1) * 2 := Nat.pow_succ ..
  simp only [T.size, T.hgt]
  rw [Nat.add_comm 1 (max a.hgt b.hgt), h5]
  omega
 | .nil => by simp [T.size, T.hgt]
 | .var _ => by simp [T.size, T.hgt]
 | .sym _ => by simp [T.size, T.hgt]
 | .num _ => by simp [T.size, T.hgt]
theorem T.lvs_pos : ∀ t : T, 1 ≤ t.lvs
 | .pair a b => by
  have := a.lvs_pos
  simp only [T.lvs]; omega
 | .nil => Nat.le_refl _
 | .var _ => Nat.le_refl _
 | .sym _ => Nat.le_refl _
 | .num _ => Nat.le_refl _
theorem T.prs_len : ∀ t : T, t.prs.length + 1 = t.lvs
 | .pair a b => by
  have h1 := a.prs_len
  have h2 := b.prs_len
  simp only [T.prs, T.lvs, List.length_cons, List.length_append]; omega
 | .nil => rfl
 | .var _ => rfl
 | .sym _ => rfl
 | .num _ => rfl
theorem T.prs_sub : ∀ {t a b : T}, T.pair a b ∈ t.prs → (∀ p ∈ a.prs, p ∈ t.prs) ∧ ∀ p ∈ b.prs, p ∈ t.prs
 | .pair x y, a, b, h => by
  simp only [T.prs, List.mem_cons, List.mem_append] at h
  rcases h with h | h | h
  ·cases h
   exact ⟨fun p hp => by simp [T.prs, hp], fun p hp => by simp [T.prs, hp]⟩
  ·have := T.prs_sub h
   exact ⟨fun p hp => by simp [T.prs, this.1 p hp], fun p hp => by simp [T.prs, this.2 p hp]⟩
  ·have := T.prs_sub h
   exact ⟨fun p hp => by simp [T.prs, this.1 p hp], fun p hp => by simp [T.prs, this.2 p hp]⟩
theorem T.prs_self {a b : T} : T.pair a b ∈ (T.pair a b).prs := by simp [T.prs]
theorem built_hgt {y : List B} {P : List T} (hP : ∀ a b, T.pair a b ∈ P → (∀ p ∈ a.prs, p ∈ P) ∧ ∀ p ∈ b.prs, p ∈ P) (hy : ∀ n, (∃ m, asF y n = .var m) ∨ (∃ s : T, (∀ p ∈ s.prs, p ∈ P) ∧ (∀ m, s ≠ .var m) ∧ asF y n = s.ap (asF y))) :
  ∀ (k : Nat) (t : T), (∀ p ∈ t.prs, p ∈ P) → (t.ap (asF y)).size ≤ k → (t.ap (asF y)).hgt ≤ (P.filter fun p => decide ((p.ap (asF y)).size ≤ (t.ap (asF y)).size)).length
 | 0, t, _, hk => by
  have : 1 ≤ (t.ap (asF y)).size := by cases t.ap (asF y) <;> simp [T.size] <;> omega
  omega
 | k + 1, t, ht, hk => by
  have core : ∀ s : T, (∀ p ∈ s.prs, p ∈ P) → (∀ m, s ≠ .var m) → (s.ap (asF y)).size ≤ k + 1 → (s.ap (asF y)).hgt ≤ (P.filter fun p => decide ((p.ap (asF y)).size ≤ (s.ap (asF y)).size)).length := by
   intro s hs hv hk
   cases s with
   | var m => exact absurd rfl (hv m)
   | nil => exact Nat.zero_le _
   | sym _ => exact Nat.zero_le _
   | num _ => exact Nat.zero_le _
   | pair a b =>
    have hm := hs _ T.prs_self
    have hab := hP a b hm
    have hsz : ((T.pair a b).ap (asF y)).size = 1 + (a.ap (asF y)).size + (b.ap (asF y)).size := rfl
    have one : ∀ c : T, (∀ p ∈ c.prs, p ∈ P) → (c.ap (asF y)).size < ((T.pair a b).ap (asF y)).size → (c.ap (asF y)).hgt + 1 ≤ (P.filter fun p => decide ((p.ap (asF y)).size ≤ ((T.pair a b).ap (asF y)).size)).length := fun c hc hlt => by
     have ih := built_hgt hP hy k c hc (by omega)
     have : (P.filter fun p => decide ((p.ap (asF y)).size ≤ (c.ap (asF y)).size)).length < (P.filter fun p => decide ((p.ap (asF y)).size ≤ ((T.pair a b).ap (asF y)).size)).length :=
      filter_lt (fun p _ k => by simp only [decide_eq_true_eq] at k ⊢; omega) (T.pair a b) hm (by simpa using hlt) (by simp)
     omega
    have h1 := one a hab.1 (by omega)
    have h2 := one b hab.2 (by omega)
    show 1 + max (a.ap (asF y)).hgt (b.ap (asF y)).hgt ≤ _
    omega
  by_cases hv : ∃ n, t = .var n
  ·obtain ⟨n, rfl⟩ := hv
   show (asF y n).hgt ≤ (P.filter fun p => decide ((p.ap (asF y)).size ≤ (asF y n).size)).length
   have hk : (asF y n).size ≤ k + 1 := hk
   rcases hy n with ⟨m, e⟩ | ⟨s, hs, hsv, e⟩
   ·rw [e]; exact Nat.zero_le _
   ·rw [e] at hk ⊢
    exact core s hs hsv hk
  ·exact core t ht (fun m e => hv ⟨m, e⟩) hk
theorem built_size {y : List B} {P : List T} (hP : ∀ a b, T.pair a b ∈ P → (∀ p ∈ a.prs, p ∈ P) ∧ ∀ p ∈ b.prs, p ∈ P) (hy : ∀ n, (∃ m, asF y n = .var m) ∨ (∃ s : T, (∀ p ∈ s.prs, p ∈ P) ∧ (∀ m, s ≠ .var m) ∧ asF y n = s.ap (asF y)))
  {t : T} (ht : ∀ p ∈ t.prs, p ∈ P) {N : Nat} (hN : P.length ≤ N) : (t.ap (asF y)).size ≤ 2 ^ (N + 1) := by
 have h1 := built_hgt hP hy _ t ht (Nat.le_refl _)
 have h2 : (P.filter fun p => decide ((p.ap (asF y)).size ≤ (t.ap (asF y)).size)).length ≤ P.length := List.length_filter_le _ _
 have h3 := T.size_hgt (t.ap (asF y))
 have h4 : 2 ^ ((t.ap (asF y)).hgt + 1) ≤ 2 ^ (N + 1) := Nat.pow_le_pow_right (by decide) (by omega)
 omega
theorem sol_holds {Q : T → Prop} {E : List (T × T)} {y : List B} {θ : Int → T} (h : SolI Q E y) : (∀ b ∈ y, θ b.var = b.to.ap θ) ↔ SolvesE θ E := by
 constructor
 ·intro k
  have hab : ∀ v, (asF y v).ap θ = θ v := fun v => by
   cases e : sub y v with
   | none =>
    have : asF y v = .var v := by rw [asF, e]; rfl
    rw [this]; rfl
   | some x =>
    have h1 : asF y v = x := by rw [asF, e]; rfl
    rw [h1]
    exact (k _ (sub_in e)).symm
  intro e he
  have h1 := h.sol.sol.sol e he
  have h2 : ∀ t : T, (t.ap (asF y)).ap θ = t.ap θ := fun t => by
   rw [T.ap_ap]
   exact T.ap_congr fun n _ => hab n
  rw [← h2 e.1, ← h2 e.2, h1]
 ·intro hθ b hb
  have h1 := h.sol.sol.gen θ hθ b.var
  have h2 : asF y b.var = b.to := by rw [asF, sub_of_mem h.sol.srt.pw hb]; rfl
  rw [h2] at h1
  exact h1.symm
end Go.Vx
namespace Go.Vx
open Go.Proofs Classical
theorem prs_closed (a b : T) : ∀ x y, T.pair x y ∈ a.prs ++ b.prs → (∀ p ∈ x.prs, p ∈ a.prs ++ b.prs) ∧ ∀ p ∈ y.prs, p ∈ a.prs ++ b.prs := fun x y h => by
 rcases List.mem_append.1 h with h | h
 ·have := T.prs_sub h
  exact ⟨fun p hp => List.mem_append_left _ (this.1 p hp), fun p hp => List.mem_append_left _ (this.2 p hp)⟩
 ·have := T.prs_sub h
  exact ⟨fun p hp => List.mem_append_right _ (this.1 p hp), fun p hp => List.mem_append_right _ (this.2 p hp)⟩
theorem unif_size {a b : T} {y : List B} {E : List (T × T)} (h : SolI (PrsIn (a.prs ++ b.prs)) E y) (hl : a.lvs + b.lvs ≤ 13) : (a.ap (asF y)).size ≤ 5000 ∧ (b.ap (asF y)).size ≤ 5000 := by
 have hy : ∀ n, (∃ m, asF y n = .var m) ∨ (∃ s : T, (∀ p ∈ s.prs, p ∈ a.prs ++ b.prs) ∧ (∀ m, s ≠ .var m) ∧ asF y n = s.ap (asF y)) := fun n => by
  rcases h.built n with k | ⟨s, h1, h2, h3⟩
  ·exact .inl k
  ·exact .inr ⟨s, h1.1, h2, h3⟩
 have h1 := a.prs_len
 have h2 := b.prs_len
 have hN : (a.prs ++ b.prs).length ≤ 11 := by rw [List.length_append]; omega
 have k1 := built_size (prs_closed a b) hy (t := a) (fun p hp => List.mem_append_left _ hp) hN
 have k2 := built_size (prs_closed a b) hy (t := b) (fun p hp => List.mem_append_right _ hp) hN
 have : (2 : Nat) ^ (11 + 1) = 4096 := by decide
 omega
theorem unif_ok {Q : T → Prop} {a b : T} {y : List B} (h : SolI Q [(a, b)] y) (hf : FitsL y) (hs : (a.ap (asF y)).size ≤ 5000) (ha : a.ok) (hb : b.ok) : unif (y.map B.bd) a.tm b.tm := by
 have e := h.sol.sol.sol (a, b) (by simp)
 have hS := h.sol.subst hf h.good
 have hk := (substOk_iff y).2 hS
 refine ⟨a.ap (asF y), ?_, ?_⟩
 ·rw [appl, if_pos ⟨hk, ha.tm⟩, B.map_b, T.toT_tm, subst_asF]
  exact fit_some.2 ⟨hs, rfl⟩
 ·have e : a.ap (asF y) = b.ap (asF y) := e
  rw [appl, if_pos ⟨hk, hb.tm⟩, B.map_b, T.toT_tm, subst_asF, ← e]
  exact fit_some.2 ⟨hs, rfl⟩
end Go.Vx
namespace Go.Vx
open Go.Proofs Classical
theorem lvB_10 : lvB 10 = 4 := by rw [lvB, if_pos (by decide), lvB, if_pos (by decide), lvB, if_neg (by decide)]
theorem lvB_4 : lvB 4 = 2 := by rw [lvB, if_pos (by decide), lvB, if_neg (by decide)]
end Go.Vx
namespace Go.Vx
open Go.Proofs Classical
open Go.ChangeShapes Go.WideShapes Go.ChangeAt Go.RowKit
section
variable {μ : Mem}
theorem MakeNum_spec {base : Option Addr} {n cap : Nat} (hb : Bytes μ base n) (m : Int) (hm : m ≤ 1000000) :
  Spec Try.prog 13 [.slice base n cap, .int .i64 m] μ fun v μ' => μ' = μ ∧ ∃ k : Nat, v = .int .i64 k ∧ k < 65536 := by
 refine Spec.mk Try.func13 (by kernel_rfl) ?_
 refine cOw (l43New_spec hb m hm) fun v μ1 h1 hle1 hap1 hR => ?_
 obtain ⟨e, r, rfl, ho, hc1⟩ := hR
 obtain rfl := e.symm
 refine cOw (l01Byte_spec hc1.at) fun v μ1 h2 hle2 hap2 hR => ?_
 obtain ⟨e, hc2, k, rfl, hk⟩ := hR
 obtain rfl := e.symm
 refine num64 (by omega) (by omega) ?_
 refine cOw (l01Byte_spec hc2.at) fun v μ1 h3 hle3 hap3 hR => ?_
 obtain ⟨e, hc3, k2, rfl, hk2⟩ := hR
 obtain rfl := e.symm
 refine num64 (by omega) (by omega) ?_
 exact rPl ⟨rfl, k * 256 + k2, by congr 1, by omega⟩
theorem MakeSize_spec {base : Option Addr} {n cap : Nat} (hb : Bytes μ base n) (m lo hi : Int) (hm : m ≤ 1000000) (h0 : 0 ≤ lo) (h1 : lo ≤ hi) (h2 : hi ≤ 1000) :
  Spec Try.prog 15 [.slice base n cap, .int .i64 m, .int .i64 lo, .int .i64 hi] μ fun v μ' => μ' = μ ∧ ∃ k : Int, v = .int .i64 k ∧ lo ≤ k ∧ k ≤ hi := by
 refine Spec.mk Try.func15 (by kernel_rfl) ?_
 refine cOw (l43New_spec hb m hm) fun v μ1 h1 hle1 hap1 hR => ?_
 obtain ⟨e, r, rfl, ho, hc1⟩ := hR
 obtain rfl := e.symm
 refine num64 (by omega) (by omega) (num64 (by omega) (by omega) ?_)
 refine cOw (l01Below_spec hc1.at _) fun v μ1 h2 hle2 hap2 hR => ?_
 obtain ⟨e, hc2, k, rfl, hk, hk2, _⟩ := hR
 obtain rfl := e.symm
 have := hk2 (by omega)
 refine num64 (by omega) (by omega) ?_
 exact rPl ⟨rfl, _, rfl, by omega, by omega⟩
end
end Go.Vx
namespace Go.Vx
open Go.Proofs Classical
section
variable {μ : Mem}
theorem MakeTerm_spec {base : Option Addr} {n cap : Nat} (hb : Bytes μ base n) (m : Int) (hm : m ≤ 1000000) (size vars : Nat) (hs : size ≤ 1000) (hv : vars ≤ 1000) :
  Spec Try.prog 11 [.slice base n cap, .int .i64 m, .int .i64 size, .int .i64 vars] μ fun v μ' => ∃ t : T, RepV μ' t.tm.d v ∧ Drawn (lvB size) vars t := by
 refine Spec.mk Try.func11 (by kernel_rfl) ?_
 intro r1
 refine cOw (l43New_spec hb m hm) fun v μ1 h1 hle1 hap1 hR => ?_
 obtain ⟨e, r, rfl, ho, hc1⟩ := hR
 obtain rfl := e.symm
 refine cOw (l02Draw_spec vars hv size hs hc1.at) fun v μ2 h2 hle2 hap2 hR => ?_
 obtain ⟨hc2, t, ht, hd⟩ := hR
 have w_ := Tm.invV ht
 obtain ⟨p, rfl⟩ := w_
 exact rPl ⟨t, ht, hd⟩
theorem l05Alike_spec (vars : Nat) (hv : vars ≤ 1000) : ∀ (x : T) {μ h : Mem} {r : Nat} {v : Value}, RepV μ x.tm.d v → Drawn x.lvs vars x → Cur μ h r h →
  SpecH Try.prog 55 [.pointer (some ⟨r, 0, none⟩), v, .int .i64 vars] μ h fun v μ' h' => DrawnAt h r (2 * x.lvs) vars v μ' h' := by
 intro x
 induction x with
 | pair a b iha ihb =>
  intro μ h r v hx hd hc
  have w_ := Tm.inv hx
  obtain ⟨base', cap', rfl, hsa⟩ := w_
  have w_ := T.parts hsa
  obtain ⟨ad, ad', p, p', h1, h2, hra, hrb⟩ := w_
  refine SpecH.mk [] Try.func55 (by kernel_rfl) ?_
  intro r1 r2
  refine cOw (l01Once_spec hc 6) fun v μ1 g1 hle1 hap1 hR => ?_
  obtain ⟨e, hc1, c, rfl⟩ := hR
  obtain rfl := e.symm
  refine iIn (fun hb => ?_) (fun hb => ?_)
  ·refine cOw (l02Draw_spec vars hv 4 (by decide) hc1.at) fun v μ2 g2 hle2 hap2 hR => ?_
   obtain ⟨hc2, t, ht, hd2⟩ := hR
   have w_ := Tm.invV ht
   obtain ⟨q, rfl⟩ := w_
   refine rPl ⟨hc1.trans hc2, t, ht, hd2.mono ?_⟩
   rw [lvB_4]
   have := T.lvs_pos
   refine Nat.le_trans (m := 2 * 1) (by decide) (Nat.mul_le_mul_left 2 (T.lvs_pos _))
  ·refine ifd (fun h4 => ?_) (fun h4 => absurd rfl h4)
   have hda : Drawn a.lvs vars a := ⟨hd.good.1, fun n hn => hd.low n (.inl hn), Nat.le_refl _⟩
   have hdb : Drawn b.lvs vars b := ⟨hd.good.2, fun n hn => hd.low n (.inr hn), Nat.le_refl _⟩
   refine eIn h1 ?_
   refine cOw (iha hra hda hc1.at) fun v μ2 g2 hle2 hap2 hR => ?_
   obtain ⟨hc2, a', ha, hda'⟩ := hR
   have w_ := Tm.invV ha
   obtain ⟨q, rfl⟩ := w_
   intro r3
   refine eIn (h2.mono hle2) ?_
   refine cOw (ihb (hrb.mono hle2) hdb hc2.at) fun v μ3 g3 hle3 hap3 hR => ?_
   obtain ⟨hc3, b', hb', hdb'⟩ := hR
   refine cPl (l02Pair_spec (ha.mono hle3) hb') fun v μ4 hle4 hR => ?_
   have w_ := Tm.invV hR
   obtain ⟨q, rfl⟩ := w_
   refine rPl ⟨(hc1.trans (hc2.trans hc3)).mono hle4, .pair a' b', hR, ?_⟩
   have e : 2 * (T.pair a b).lvs = 2 * a.lvs + 2 * b.lvs := by simp only [T.lvs]; omega
   rw [e]
   exact hda'.pair hdb'
 | _ =>
  intro μ h r v hx hd hc
  have hx0 := hx
  have w_ := Tm.invV hx
  obtain ⟨p, rfl⟩ := w_
  refine SpecH.mk [] Try.func55 (by kernel_rfl) ?_
  intro r1 r2
  refine cOw (l01Once_spec hc 6) fun v μ1 g1 hle1 hap1 hR => ?_
  obtain ⟨e, hc1, c, rfl⟩ := hR
  obtain rfl := e.symm
  refine iIn (fun hb => ?_) (fun hb => ?_)
  ·refine cOw (l02Draw_spec vars hv 4 (by decide) hc1.at) fun v μ2 g2 hle2 hap2 hR => ?_
   obtain ⟨hc2, t, ht, hd2⟩ := hR
   have w_ := Tm.invV ht
   obtain ⟨q, rfl⟩ := w_
   refine rPl ⟨hc1.trans hc2, t, ht, hd2.mono ?_⟩
   rw [lvB_4]
   have := T.lvs_pos
   refine Nat.le_trans (m := 2 * 1) (by decide) (Nat.mul_le_mul_left 2 (T.lvs_pos _))
  ·refine ifd (fun h4 => absurd h4 (by simp [T.tm, Tm.kind])) (fun h4 => ?_)
   exact rPl ⟨hc1, _, hx, hd.mono (by omega)⟩
theorem MakeAlike_spec {base : Option Addr} {n cap : Nat} (hb : Bytes μ base n) (m : Int) (hm : m ≤ 1000000) (vars : Nat) (hv : vars ≤ 1000) {x : T} {k : Nat} {v : Value} (hx : RepV μ x.tm.d v) (hd : Drawn k vars x) :
  Spec Try.prog 12 [.slice base n cap, .int .i64 m, v, .int .i64 vars] μ fun v μ' => ∃ t : T, RepV μ' t.tm.d v ∧ Drawn (2 * k) vars t := by
 have w_ := Tm.invV hx
 obtain ⟨p, rfl⟩ := w_
 refine Spec.mk Try.func12 (by kernel_rfl) ?_
 intro r1 r2
 refine cOw (l43New_spec hb m hm) fun v μ1 h1 hle1 hap1 hR => ?_
 obtain ⟨e, r, rfl, ho, hc1⟩ := hR
 obtain rfl := e.symm
 refine cOw (l05Alike_spec vars hv x hx ⟨hd.good, hd.low, Nat.le_refl _⟩ hc1.at) fun v μ2 h2 hle2 hap2 hR => ?_
 obtain ⟨hc2, t, ht, hd2⟩ := hR
 have w_ := Tm.invV ht
 obtain ⟨p, rfl⟩ := w_
 exact rPl ⟨t, ht, hd2.mono (Nat.mul_le_mul_left 2 hd.lvs)⟩
theorem MakeGround_spec {base : Option Addr} {n cap : Nat} (hb : Bytes μ base n) (m : Int) (hm : m ≤ 1000000) (vars : Nat) (hv : vars ≤ 1000) :
  Spec Try.prog 10 [.slice base n cap, .int .i64 m, .int .i64 vars] μ fun v μ' => ∃ g : List B, GVals vars 2 g ∧ RepV μ' (.sl 5 ((g.map B.bd).map Bd.d)) v := by
 refine Spec.mk Try.func10 (by kernel_rfl) ?_
 refine cOw (l43New_spec hb m hm) fun v μ1 h1 hle1 hap1 hR => ?_
 obtain ⟨e, r, rfl, ho, hc1⟩ := hR
 obtain rfl := e.symm
 refine cOw (l12Ground_spec hc1.at vars hv) fun v μ2 h2 hle2 hap2 hR => ?_
 obtain ⟨hc2, g, hg, hr⟩ := hR
 exact rPl ⟨g, hg, hr⟩
end
end Go.Vx
namespace Go.Vx
open Go.Proofs Classical
section
variable {μ : Mem}
theorem holds_spec {s g : List B} {base base2 : Option Addr} {cap cap2 : Nat} (hs : Sl μ 5 base s.length ((s.map B.bd).map Bd.d)) (hg : Sl μ 5 base2 g.length ((g.map B.bd).map Bd.d)) :
  Spec Try.prog 20 [.slice base s.length cap, .slice base2 g.length cap2] μ fun v _ => v = .bool (decide (∀ b ∈ s, asF g b.var = b.to.ap (asF g))) := by
 have hn := maxLen_le hs.max
 refine Spec.mk Try.func20 (by kernel_rfl) ?_
 refine lIn (fun p : Nat × Mem => p.1 ≤ s.length ∧ μ.Le p.2 ∧ ∀ b ∈ s.take p.1, asF g b.var = b.to.ap (asF g))
  (fun (i, μ') => ⟨[(1, .val (.slice base2 g.length cap2)), (7, .val (.slice base s.length cap)), (8, .val (.int .i64 s.length)), (9, .val (.int .i64 i))], [], 0, μ', Mem.nil⟩) (fun p => s.length - p.1)
  (0, μ) ⟨Nat.zero_le _, Mem.Le.refl _, by simp⟩ (fun (_, _) => ⟨rfl, rfl⟩) ⟨⟨rfl, rfl, rfl, rfl, trivial⟩, trivial, rfl, rfl⟩ ?_
 rintro ⟨i, μ1⟩ ⟨hi, hle1, hall⟩
 dsimp only at hi hle1 hall
 refine ifd (fun h => ?_) (fun h => ?_)
 ·have w_ := aSo (l := s) (i := i) (by omega)
  obtain ⟨b, hb⟩ := w_
  have w_ := B.elem (hs.mono hle1) hb
  obtain ⟨ad, p, hel, hto⟩ := w_
  refine eIn hel ?_
  intro r3
  refine cPl (MakeValue_spec (x := .var b.var) (hg.mono hle1) (varV_rep b.var)) fun v2 μ2 hle2 hR2 => ?_
  refine cPl (MakeValue_spec (x := b.to) (hg.mono (hle1.trans hle2)) (hto.mono hle2)) fun v3 μ3 hle3 hR3 => ?_
  refine cGv (same_spec _ _ (hR2.mono hle3) hR3) ?_
  refine ifnd (fun h5 => rPl (isF fun e => h5 (e b (mAt hb)))) (fun h5 => ?_)
  refine num64 (by omega) (by omega) ⟨(i + 1, μ3), ⟨by dsimp only; omega, hle1.trans (hle2.trans hle3), ?_⟩, by dsimp only; omega, ⟨⟨rfl, rfl, rfl, rfl, trivial⟩, trivial, rfl, rfl⟩⟩
  dsimp only
  rw [List.take_add_one, hb, Option.toList_some]
  intro c hc
  rcases List.mem_append.1 hc with hc | hc
  ·exact hall c hc
  ·rw [List.mem_singleton.1 hc]; exact h5
 ·obtain rfl : i = s.length := by omega
  rw [List.take_length] at hall
  exact rPl (isT hall)
end
end Go.Vx
namespace Go.Vx
open Go.Proofs Classical
section
variable {μ : Mem} {Q : T → Prop}
theorem Unify_spec {bs : List B} {a b : T} {va vb : Value} {b0 : Option Addr} {c0 : Nat} (hQ : ∀ a b, Q (.pair a b) → Q a ∧ Q b) (hQg : ∀ t, Q t → t.good) (hb : ∀ b ∈ bs, Q (.var b.var) ∧ Q b.to) (hQa : Q a) (hQb : Q b) (hS : Subst bs) (ha : a.ok) (hbk : b.ok)
  (hsb : Sl μ 5 b0 bs.length ((bs.map B.bd).map Bd.d)) (hva : RepV μ a.tm.d va) (hvb : RepV μ b.tm.d vb) :
  Spec Try.prog 16 [.slice b0 bs.length c0, va, vb] μ fun r μ' => ∃ o, optB (fun y tv => RepV μ' (.sl 5 ((y.map B.bd).map Bd.d)) tv) o r ∧ SolO Q (eqsB bs ++ [(a, b)]) o := by
 have w_ := Tm.invV hva
 obtain ⟨p, rfl⟩ := w_
 have w_ := Tm.invV hvb
 obtain ⟨q, rfl⟩ := w_
 have hk := impl_SubstOk_spec (l := bs.map B.bd) (cap := c0) (by rw [List.length_map]; exact hsb)
 rw [List.length_map] at hk
 refine Spec.mk Try.func16 (by kernel_rfl) ?_
 intro r1 r2
 refine cGv hk ?_
 refine ifnd (fun h => absurd ((substOk_iff bs).2 hS) h) (fun _ => ?_)
 refine cGv (impl_TermOk_spec a.tm hva) ?_
 refine ifnd (fun h => absurd ha.tm h) (fun _ => ?_)
 refine cGv (impl_TermOk_spec b.tm hvb) ?_
 refine ifnd (fun h => absurd hbk.tm h) (fun _ => ?_)
 intro r3 r4
 refine call_frz [2, 3] ?_
 intro μ1 hle1 hno1 hat1 μ2 hle2 hno2 hat2
 have hx : RepV μ2 (.sl 4 (([a].map T.tm).map Tm.d)) (.slice (some ⟨r3, 0, none⟩) 1 1) := RepV.mono hle2 (Rows.sl hat1 (Rows.one (hva.mono hle1) (Tm.d_n _)) (show 1 ≤ maxLen by decide))
 have hy : RepV μ2 (.sl 4 (([b].map T.tm).map Tm.d)) (.slice (some ⟨r4, 0, none⟩) 1 1) := Rows.sl hat2 (Rows.one (hvb.mono (hle1.trans hle2)) (Tm.d_n _)) (show 1 ≤ maxLen by decide)
 have w_ := Rep.sl hx
 obtain ⟨_, _, e1, hx⟩ := w_
 simp only [Value.slice.injEq] at e1
 have w_ := Rep.sl hy
 obtain ⟨_, _, e2, hy⟩ := w_
 simp only [Value.slice.injEq] at e2
 obtain ⟨rfl, _, rfl⟩ := e1
 obtain ⟨rfl, _, rfl⟩ := e2
 have hl := hS.vals.len
 have hsol := solution_spec (Q := Q) (xs := [a]) (ys := [b]) (c1 := 1) (c2 := 1) (c0 := c0) hQ hQg hb (fun x hx => by rw [List.mem_singleton.1 hx]; exact hQa) (fun x hx => by rw [List.mem_singleton.1 hx]; exact hQb) rfl (hsb.mono (hle1.trans hle2)) hx hy (by omega) (show 1 ≤ 1000000000 by decide)
 refine call_go hsol fun r μ3 hle3 hR => ?_
 obtain ⟨o, hR, hO⟩ := hR
 cases o with
 | some y =>
  obtain ⟨tv, rfl, hy⟩ := hR
  exact rPl ⟨some y, ⟨tv, rfl, hy⟩, hO⟩
 | none =>
  obtain rfl := hR
  exact rPl ⟨none, rfl, hO⟩
end
end Go.Vx
namespace Go.Vx
open Go.Proofs Classical
section
variable {μ : Mem}
set_option maxHeartbeats 1000000 in
theorem FnUnifier_spec {base : Option Addr} {n cap : Nat} (hb : Bytes μ base n) :
  Spec Try.prog 3 [.slice base n cap] μ fun r _ => r = .bool true := by
 refine Spec.mk Try.func3 (by kernel_rfl) ?_
 refine ifd (fun h => rPl rfl) (fun h => ?_)
 refine cPl (MakeGround_spec hb 0 (by decide) 4 (by decide)) fun v1 μ1 hle1 hR => ?_
 obtain ⟨g, hg, hrg⟩ := hR
 have w_ := Rep.slC hrg
 obtain ⟨bg, cg, rfl, hsg, hcg⟩ := w_
 rw [List.length_map, List.length_map] at hsg hcg ⊢
 have hgl := hg.len
 refine cPl (MakeTerm_spec (hb.mono hle1) 20 (by decide) 10 4 (by decide) (by decide)) fun v2 μ2 hle2 hR => ?_
 obtain ⟨a, ha, hda⟩ := hR
 rw [lvB_10] at hda
 have w_ := Tm.invV ha
 obtain ⟨pa, rfl⟩ := w_
 intro r1
 refine cPl (MakeAlike_spec (hb.mono (hle1.trans hle2)) 60 (by decide) 4 (by decide) ha hda) fun v3 μ3 hle3 hR => ?_
 obtain ⟨b0, hb0, hdb0⟩ := hR
 have w_ := Tm.invV hb0
 obtain ⟨pb, rfl⟩ := w_
 intro r2
 have hle13 := hle2.trans hle3
 refine cPl (MakeNum_spec (hb.mono (hle1.trans (hle2.trans hle3))) 90 (by decide)) fun v4 μ4 hle4 hR => ?_
 obtain ⟨e, k, rfl, hk⟩ := hR
 obtain rfl := e.symm
 refine need_intro (by decide) ?_
 refine num_intro fun x _ => ?_
 refine ifd (fun hx => ?_) (fun hx => ?_)
 ·refine cPl (MakeSize_spec (hb.mono (hle1.trans (hle2.trans hle3))) 92 0 4 (by decide) (by decide) (by decide) (by decide)) fun v5 μ5 hle5 hR => ?_
  obtain ⟨e, z, rfl, hz0, hz4⟩ := hR
  obtain rfl := e.symm
  refine cut_intro 0 z.toNat rfl (by omega) (by omega) (by omega) ?_
  have hz : z.toNat ≤ 4 := by omega
  have hcut := Sl.headL (c := cg) (i := z.toNat) (hsg.mono hle13) (by omega)
  have hgk := hg.take hz
  have hkl : z.toNat - 0 = (g.take z.toNat).length := by rw [hgk.len]; rfl
  rw [← List.map_take, ← List.map_take, hkl] at hcut
  have hMV := MakeValue_spec (cap := cg - 0) hcut (ha.mono hle3)
  rw [← hkl] at hMV
  refine cPl hMV fun v6 μ6 hle6 hR => ?_
  have hbv := hR
  generalize eb : a.ap (asF (g.take z.toNat)) = b at hbv
  have hdb : Drawn (2 * 4) 4 b := by
   rw [← eb]
   refine hda.ap (l := 2) (w := 4) (by decide) fun m h0 h4 => ?_
   by_cases hm : m < (z.toNat : Int)
   ·exact (hgk.asF h0 hm).wide (by decide)
   ·rw [hgk.out (by omega)]
    exact ⟨⟨h0, by omega⟩, fun n hn => by have hn : m = n := hn; omega, by show 1 ≤ 2; decide⟩
  have w_ := Tm.invV hR
  obtain ⟨pb2, rfl⟩ := w_
  rw [eb] at hbv ⊢
  replace ha := ha.mono (hle3.trans hle6)
  replace hsg := hsg.mono (hle13.trans hle6)
  have hU := Unify_spec (Q := PrsIn (a.prs ++ b.prs)) (bs := []) (b0 := none) (c0 := 0) (fun x y => PrsIn.pair (prs_closed a b)) (fun t h => h.2) (fun b hb => by simp at hb) ⟨fun p hp => List.mem_append_left _ hp, hda.good⟩ ⟨fun p hp => List.mem_append_right _ hp, hdb.good⟩ ((DSub.nil 4 8 4 4).subst (by decide) (by decide) (by decide) (by decide)) (hda.ok (by decide)) (hdb.ok (by decide)) ⟨rfl, Nat.zero_le _, fun i x h => by simp at h⟩ ha hbv
  refine cPl hU fun v7 μ7 hle7 hR => ?_
  obtain ⟨o, hR, hO⟩ := hR
  have hO : SolO (PrsIn (a.prs ++ b.prs)) [(a, b)] o := hO
  replace ha := ha.mono hle7
  replace hbv := hbv.mono hle7
  replace hsg := hsg.mono hle7
  have hlow : ∀ v ∈ evars [(a, b)], 0 ≤ v ∧ v < 4 := fun v hv => by
   simp only [evars, List.flatMap_cons, List.flatMap_nil, List.append_nil, List.mem_append] at hv
   rcases hv with hv | hv
   ·exact hda.low v (T.occ_vars.2 hv)
   ·exact hdb.low v (T.occ_vars.2 hv)
  have hsz : ∀ v ∈ evars [(a, b)], (asF g v).size ≤ 5000 := fun v hv => by
   have := hlow v hv
   have := (hg.asF this.1 (by omega)).size
   omega
  have hel : (evars [(a, b)]).length ≤ 400 := by
   simp only [evars, List.flatMap_cons, List.flatMap_nil, List.append_nil, List.length_append]
   have h1 := a.vars_lvs
   have h2 := b.vars_lvs
   have h3 := hda.lvs
   have h4 := hdb.lvs
   omega
  have heq : SolvesE (asF g) [(a, b)] ↔ a.ap (asF g) = b.ap (asF g) := by simp [SolvesE]
  cases o with
  | none =>
   obtain rfl := hR
   refine cPl (MakeValue_spec (x := a) hsg ha) fun v8 μ8 hle8 hR8 => ?_
   refine cPl (MakeValue_spec (x := b) (hsg.mono hle8) (hbv.mono hle8)) fun v9 μ9 hle9 hR9 => ?_
   refine cGv (same_spec _ _ (hR8.mono hle9) hR9) ?_
   have hne := sol_none hO hsz hel
   rw [heq] at hne
   refine iIn (fun _ => ?_) (fun h => nomatch h)
   refine ifnd (fun _ => rPl rfl) (fun h => absurd h hne)
  | some y =>
   obtain ⟨tv, rfl, hy⟩ := hR
   have w_ := Rep.sl hy
   obtain ⟨b8, c8, rfl, hsy⟩ := w_
   rw [List.length_map, List.length_map] at hsy ⊢
   have hS := hO.1.sol.subst hO.2 hO.1.good
   have hkS := (substOk_iff y).2 hS
   refine cPl (MakeValue_spec (x := a) hsg ha) fun v8 μ8 hle8 hR8 => ?_
   refine cPl (MakeValue_spec (x := b) (hsg.mono hle8) (hbv.mono hle8)) fun v9 μ9 hle9 hR9 => ?_
   refine cGv (same_spec _ _ (hR8.mono hle9) hR9) ?_
   refine iIn (fun h => nomatch h) (fun _ => ?_)
   have hsy' : Sl μ9 5 b8 (y.map B.bd).length ((y.map B.bd).map Bd.d) := by
    rw [List.length_map]; exact hsy.mono (hle8.trans hle9)
   have hk := impl_SubstOk_spec (cap := c8) hsy'
   rw [List.length_map] at hk
   refine cGv hk ?_
   refine ifd (fun _ => ?_) (fun h => absurd hkS h)
   have hul := impl_IsUnifier_spec (cap := c8) hsy' (ha.mono (hle8.trans hle9)) (hbv.mono (hle8.trans hle9))
   rw [List.length_map] at hul
   refine cGv hul ?_
   have hsz2 := unif_size hO.1 (by have h3 := hda.lvs; have h4 := hdb.lvs; omega)
   refine ifd (fun _ => ?_) (fun h => absurd (unif_ok hO.1 hO.2 hsz2.1 (hda.ok (by decide)) (hdb.ok (by decide))) h)
   refine cPl (holds_spec (cap := c8) (cap2 := cg) (hsy.mono (hle8.trans hle9)) (hsg.mono (hle8.trans hle9))) fun v10 μ10 hle10 hR10 => ?_
   obtain rfl := hR10
   refine rPl ?_
   have e : (∀ b ∈ y, asF g b.var = b.to.ap (asF g)) ↔ a.ap (asF g) = b.ap (asF g) := (sol_holds hO.1).trans heq
   simp only [e, beq_self_eq_true]
 ·have hbv := hb0
  have hdb := hdb0
  replace ha := ha.mono hle3
  replace hsg := hsg.mono hle13
  have hU := Unify_spec (Q := PrsIn (a.prs ++ b0.prs)) (bs := []) (b0 := none) (c0 := 0) (fun x y => PrsIn.pair (prs_closed a b0)) (fun t h => h.2) (fun b hb => by simp at hb) ⟨fun p hp => List.mem_append_left _ hp, hda.good⟩ ⟨fun p hp => List.mem_append_right _ hp, hdb.good⟩ ((DSub.nil 4 8 4 4).subst (by decide) (by decide) (by decide) (by decide)) (hda.ok (by decide)) (hdb.ok (by decide)) ⟨rfl, Nat.zero_le _, fun i x h => by simp at h⟩ ha hbv
  refine cPl hU fun v7 μ7 hle7 hR => ?_
  obtain ⟨o, hR, hO⟩ := hR
  have hO : SolO (PrsIn (a.prs ++ b0.prs)) [(a, b0)] o := hO
  replace ha := ha.mono hle7
  replace hbv := hbv.mono hle7
  replace hsg := hsg.mono hle7
  have hlow : ∀ v ∈ evars [(a, b0)], 0 ≤ v ∧ v < 4 := fun v hv => by
   simp only [evars, List.flatMap_cons, List.flatMap_nil, List.append_nil, List.mem_append] at hv
   rcases hv with hv | hv
   ·exact hda.low v (T.occ_vars.2 hv)
   ·exact hdb.low v (T.occ_vars.2 hv)
  have hsz : ∀ v ∈ evars [(a, b0)], (asF g v).size ≤ 5000 := fun v hv => by
   have := hlow v hv
   have := (hg.asF this.1 (by omega)).size
   omega
  have hel : (evars [(a, b0)]).length ≤ 400 := by
   simp only [evars, List.flatMap_cons, List.flatMap_nil, List.append_nil, List.length_append]
   have h1 := a.vars_lvs
   have h2 := b0.vars_lvs
   have h3 := hda.lvs
   have h4 := hdb.lvs
   omega
  have heq : SolvesE (asF g) [(a, b0)] ↔ a.ap (asF g) = b0.ap (asF g) := by simp [SolvesE]
  cases o with
  | none =>
   obtain rfl := hR
   refine cPl (MakeValue_spec (x := a) hsg ha) fun v8 μ8 hle8 hR8 => ?_
   refine cPl (MakeValue_spec (x := b0) (hsg.mono hle8) (hbv.mono hle8)) fun v9 μ9 hle9 hR9 => ?_
   refine cGv (same_spec _ _ (hR8.mono hle9) hR9) ?_
   have hne := sol_none hO hsz hel
   rw [heq] at hne
   refine iIn (fun _ => ?_) (fun h => nomatch h)
   refine ifnd (fun _ => rPl rfl) (fun h => absurd h hne)
  | some y =>
   obtain ⟨tv, rfl, hy⟩ := hR
   have w_ := Rep.sl hy
   obtain ⟨b8, c8, rfl, hsy⟩ := w_
   rw [List.length_map, List.length_map] at hsy ⊢
   have hS := hO.1.sol.subst hO.2 hO.1.good
   have hkS := (substOk_iff y).2 hS
   refine cPl (MakeValue_spec (x := a) hsg ha) fun v8 μ8 hle8 hR8 => ?_
   refine cPl (MakeValue_spec (x := b0) (hsg.mono hle8) (hbv.mono hle8)) fun v9 μ9 hle9 hR9 => ?_
   refine cGv (same_spec _ _ (hR8.mono hle9) hR9) ?_
   refine iIn (fun h => nomatch h) (fun _ => ?_)
   have hsy' : Sl μ9 5 b8 (y.map B.bd).length ((y.map B.bd).map Bd.d) := by
    rw [List.length_map]; exact hsy.mono (hle8.trans hle9)
   have hk := impl_SubstOk_spec (cap := c8) hsy'
   rw [List.length_map] at hk
   refine cGv hk ?_
   refine ifd (fun _ => ?_) (fun h => absurd hkS h)
   have hul := impl_IsUnifier_spec (cap := c8) hsy' (ha.mono (hle8.trans hle9)) (hbv.mono (hle8.trans hle9))
   rw [List.length_map] at hul
   refine cGv hul ?_
   have hsz2 := unif_size hO.1 (by have h3 := hda.lvs; have h4 := hdb.lvs; omega)
   refine ifd (fun _ => ?_) (fun h => absurd (unif_ok hO.1 hO.2 hsz2.1 (hda.ok (by decide)) (hdb.ok (by decide))) h)
   refine cPl (holds_spec (cap := c8) (cap2 := cg) (hsy.mono (hle8.trans hle9)) (hsg.mono (hle8.trans hle9))) fun v10 μ10 hle10 hR10 => ?_
   obtain rfl := hR10
   refine rPl ?_
   have e : (∀ b ∈ y, asF g b.var = b.to.ap (asF g)) ↔ a.ap (asF g) = b0.ap (asF g) := (sol_holds hO.1).trans heq
   simp only [e, beq_self_eq_true]
end
end Go.Vx
