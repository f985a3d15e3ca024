/- Texts of the proof, part 4: Wa Wc Wd Sn0 Ua Qc Sa Qa Qb Wb We We2 Xa Xb Xc Qd Sb Sc Ln Sg Sd Se. -/
import Derived.Test.YtepgghefbcklhaaM3
import Derived.Sort.AssemblyPlain
/- Contracts: the program's put and Instantiate. -/
namespace Go.Vx
open Go.Proofs Classical
theorem Srt.tail {b : B} {bs : List B} (h : Srt (b :: bs)) : Srt bs := fun i j c d hij hc hd => h (i + 1) (j + 1) c d (by omega) (by simpa using hc) (by simpa using hd)
theorem sub_some : ∀ {bs : List B} (_ : Srt bs) {i : Nat} {b : B} {n : Int}, bs[i]? = some b → b.var = n → sub bs n = some b.to
  | [], _, i, b, n, h, _ => by simp at h
  | c :: bs, hs, 0, b, n, h, e => by
    simp only [List.getElem?_cons_zero, Option.some.injEq] at h
    subst h
    rw [sub, if_pos e]
  | c :: bs, hs, i + 1, b, n, h, e => by
    have := hs 0 (i + 1) c b (by omega) rfl h
    rw [sub, if_neg (by omega)]
    exact sub_some hs.tail (by simpa using h) e
theorem sub_none : ∀ {bs : List B} {n : Int}, (∀ b ∈ bs, b.var ≠ n) → sub bs n = none
  | [], _, _ => rfl
  | c :: bs, n, h => by
    rw [sub, if_neg (h c (by simp))]
    exact sub_none fun b hb => h b (by simp [hb])
theorem sub_ok : ∀ {bs : List B} (_ : ∀ b ∈ bs, b.to.ok) {n : Int} {y : T}, sub bs n = some y → y.ok
  | [], _, n, y, h => by simp [sub] at h
  | c :: bs, hk, n, y, h => by
    rw [sub] at h
    split at h
    · cases h; exact hk c (by simp)
    · exact sub_ok (fun b hb => hk b (by simp [hb])) h
theorem valsOk.srt {l : List Bd} (h : valsOk l) : Srt (l.map Bd.b) := by
  intro i j b c hij hb hc
  simp only [List.getElem?_map, Option.map_eq_some_iff] at hb hc
  obtain ⟨b, hb, rfl⟩ := hb
  obtain ⟨c, hc, rfl⟩ := hc
  show b.var < c.var
  induction j generalizing c with
  | zero => omega
  | succ j ih =>
    have hj : j < l.length := by have := (List.getElem?_eq_some_iff.1 hc).1; omega
    obtain ⟨d, hd⟩ := at_some hj
    have h1 := (h.2 (j + 1) c hc).2.2 j d rfl hd
    rcases Nat.lt_or_ge i j with h2 | h2
    · have := ih h2 d hd; omega
    · obtain rfl : i = j := by omega
      rw [hb] at hd; cases hd; exact h1
section
variable {μ : Mem}
theorem put1_looks {bs : List B} {base : Option Addr} {cap : Nat} {r : Nat} {ty : TypeId} (hs : Srt bs) (hlen : bs.length ≤ 1000000000) (hsl : Sl μ 5 base bs.length ((bs.map B.bd).map Bd.d)) (h : μ r = some (.cells #[.slice base bs.length cap] ty (0, 0))) :
    Looks 143 [.pointer (some ⟨r, 0, none⟩)] μ (sub bs) := fun μ' hle n => by
  have hsl := hsl.mono hle
  have h : μ' r = _ := hle _ _ h
  refine Spec.mk Try.func143 (by kernel_rfl) ?_
  intro r1
  refine ext_intro [.slice base bs.length cap] rfl (box_at h) ?_
  refine call_plain (find_spec hs hlen hsl) fun v μ2 hle2 hR => ?_
  obtain ⟨hR, e2⟩ := hR
  obtain rfl := e2.symm
  rcases hR with ⟨i, b, rfl, hb, hn⟩ | ⟨rfl, hno⟩
  · rw [sub_some hs hb hn]
    obtain ⟨ad, p, hel, hto⟩ := B.elem hsl hb
    refine ifd (fun _ => ?_) (fun h => absurd h (by omega))
    refine ext_intro [.slice base bs.length cap] rfl (box_at h) ?_
    refine elem_intro hel ?_
    exact ret_plain ⟨_, rfl, hto⟩
  · rw [sub_none hno]
    refine ifd (fun h => absurd h (by omega)) (fun _ => ?_)
    exact ret_plain rfl
theorem replaced1_counts {k : FuncId} {caps : List Value} {f : Int → Option T} {r : Nat} {ty : TypeId} (hk : Looks k caps μ f) (hf : ∀ n y, f n = some y → y.ok) (h : μ r = some (.cells #[.func (.func k) #[] caps.toArray] ty (0, 0))) :
    Counts 197 [.pointer (some ⟨r, 0, none⟩)] μ (cntOf f) := fun n => by
  refine (Spec.forget (R := fun v => v = .int .i64 (cntOf f n)) (Spec.mk Try.func197 (by kernel_rfl) ?_))
  refine ext_intro [.func (.func k) #[] caps.toArray] rfl (box_at h) ?_
  refine call_plain (hk μ (Mem.Le.refl μ) n) fun v μ1 hle1 hR => ?_
  simp only [cntOf]
  cases hs : f n with
  | some y =>
    rw [hs] at hR
    obtain ⟨tv, rfl, htv⟩ := hR
    obtain ⟨q, rfl⟩ := Tm.invV htv
    intro r3
    refine if_intro (fun _ => ?_) (fun h => nomatch h)
    refine call_gives (nodesOf_spec y.tm htv (by decide) (by decide)) ?_
    have hy := (hf n y hs).tm
    rw [Tm.nodes_pos hy.1 (by have := hy.2; omega), T.cnt_tm]
    exact ret_plain rfl
  | none =>
    rw [hs] at hR
    obtain rfl := hR
    intro r3
    refine if_intro (fun h => nomatch h) (fun _ => ?_)
    exact ret_plain rfl
/-- A substituted term, if it is not too big. -/
noncomputable def fit (x : T) : Option T := if x.size ≤ 5000 then some x else none
theorem replaced_spec {k : FuncId} {caps : List Value} {f : Int → Option T} (x : T) {v : Value} (hk : Looks k caps μ f) (hf : ∀ n y, f n = some y → y.ok) (hv : RepV μ x.tm.d v) :
    Spec Try.prog 142 [v, .func (.func k) #[] caps.toArray] μ fun v μ' => optV (fun y tv => Fresh μ μ' y.tm.d tv) (fit (x.subst f)) v := by
  obtain ⟨p, rfl⟩ := Tm.invV hv
  have hc : ∀ n, cntOf f n ≤ 5000 := fun n => by
    simp only [cntOf]
    split
    · rename_i y hy
      exact (hf n y hy).2
    · omega
  refine Spec.mk Try.func142 (by kernel_rfl) ?_
  intro r1 r2 r3
  refine call_frz [1] ?_
  intro μ1 hle1 hno1 hat1
  have hk1 : Looks k caps μ1 f := fun μ' h => hk μ' (hle1.trans h)
  refine call_go (sizeWith_spec (replaced1_counts hk1 hf hat1) hc x (hv.mono hle1)) fun v μ2 hle2 hR => ?_
  obtain ⟨rfl, e2⟩ := hR
  obtain rfl := e2.symm
  refine ifd (fun h => ?_) (fun h => ?_)
  · rw [fit, if_neg (by omega)]
    exact ret_plain rfl
  · rw [fit, if_pos (by omega)]
    refine ext_intro [.func (.func k) #[] caps.toArray] rfl (box_at hat1) ?_
    refine call_plain (mapVars_spec x hk1 (hv.mono hle1)) fun v2 μ3 hle3 hR3 => ?_
    obtain ⟨q, rfl⟩ := Tm.invV hR3.rep
    exact ret_plain ⟨_, rfl, hR3.mono hle1 (Mem.Le.refl _)⟩
theorem put_spec {bs : List B} {base : Option Addr} {cap : Nat} (x : T) {v : Value} (hs : Srt bs) (hlen : bs.length ≤ 1000000000) (hk : ∀ b ∈ bs, b.to.ok) (hsl : Sl μ 5 base bs.length ((bs.map B.bd).map Bd.d)) (hv : RepV μ x.tm.d v) :
    Spec Try.prog 74 [.slice base bs.length cap, v] μ fun v μ' => optV (fun y tv => Fresh μ μ' y.tm.d tv) (fit (x.subst (sub bs))) v := by
  obtain ⟨p, rfl⟩ := Tm.invV hv
  refine Spec.mk Try.func74 (by kernel_rfl) ?_
  intro r1 r2 r3
  refine call_frz [0] ?_
  intro μ1 hle1 hno1 hat1
  refine call_go (replaced_spec x (put1_looks hs hlen (hsl.mono hle1) hat1) (fun n y h => sub_ok hk h) (hv.mono hle1)) fun v μ2 hle2 hR => ?_
  cases hf : fit (x.subst (sub bs)) with
  | some y =>
    rw [hf] at hR
    obtain ⟨tv, rfl, htv⟩ := hR
    obtain ⟨q, rfl⟩ := Tm.invV htv.rep
    exact ret_plain ⟨_, rfl, htv.mono hle1 (Mem.Le.refl _)⟩
  | none =>
    rw [hf] at hR
    obtain rfl := hR
    exact ret_plain rfl
end
end Go.Vx

/- Contracts: terms compared. -/
namespace Go.Vx
open Go.Proofs Classical
def sgn (b : Bool) : Int := if b then -1 else 1
/-- The comparison of two terms' own fields, then the rest. -/
noncomputable def hdCmp (x y : Tm) (rest : Int) : Int :=
  if x.kind ≠ y.kind then sgn (decide (x.kind < y.kind)) else if x.num ≠ y.num then sgn (decide (x.num < y.num)) else if x.name ≠ y.name then sgn (Op.bytesLess x.name.data.toList y.name.data.toList) else rest
noncomputable def T.cmp : T → T → Int
  | .pair a b, .pair c d => if a.cmp c = 0 then b.cmp d else a.cmp c
  | .pair a b, .nil => hdCmp (T.pair a b).tm T.nil.tm 0
  | .pair a b, .var n => hdCmp (T.pair a b).tm (T.var n).tm 0
  | .pair a b, .sym n => hdCmp (T.pair a b).tm (T.sym n).tm 0
  | .pair a b, .num n => hdCmp (T.pair a b).tm (T.num n).tm 0
  | .nil, y => hdCmp T.nil.tm y.tm 0
  | .var n, y => hdCmp (T.var n).tm y.tm 0
  | .sym n, y => hdCmp (T.sym n).tm y.tm 0
  | .num n, y => hdCmp (T.num n).tm y.tm 0
theorem sgn_ne (b : Bool) : sgn b ≠ 0 := by cases b <;> simp [sgn]
theorem hdCmp_zero {x y : Tm} {r : Int} : hdCmp x y r = 0 ↔ x.kind = y.kind ∧ x.num = y.num ∧ x.name = y.name ∧ r = 0 := by
  unfold hdCmp
  split
  · rename_i h; exact ⟨fun k => absurd k (sgn_ne _), fun k => absurd k.1 h⟩
  · split
    · rename_i h; exact ⟨fun k => absurd k (sgn_ne _), fun k => absurd k.2.1 h⟩
    · split
      · rename_i h; exact ⟨fun k => absurd k (sgn_ne _), fun k => absurd k.2.2.1 h⟩
      · rename_i h1 h2 h3
        exact ⟨fun k => ⟨Classical.not_not.1 h1, Classical.not_not.1 h2, Classical.not_not.1 h3, k⟩, fun k => k.2.2.2⟩
theorem T.cmp_zero : ∀ x y : T, x.cmp y = 0 ↔ x = y := by
  intro x
  induction x with
  | pair a b iha ihb =>
    intro y
    cases y with
    | pair c d =>
      rw [T.cmp, T.pair.injEq, ← iha, ← ihb]
      split
      · rename_i h; exact ⟨fun k => ⟨h, k⟩, fun k => k.2⟩
      · rename_i h; exact ⟨fun k => absurd k h, fun k => absurd k.1 h⟩
    | _ => rw [T.cmp, hdCmp_zero]; simp [T.tm, Tm.kind]
  | _ =>
    intro y
    rw [T.cmp, hdCmp_zero]
    cases y <;> simp [T.tm, Tm.kind, Tm.num, Tm.name]
theorem hd1 {x y : Tm} {r : Int} (h : ¬ x.kind = y.kind) : hdCmp x y r = sgn (decide (x.kind < y.kind)) := by rw [hdCmp, if_pos h]
theorem hd2 {x y : Tm} {r : Int} (h1 : x.kind = y.kind) (h : ¬ x.num = y.num) : hdCmp x y r = sgn (decide (x.num < y.num)) := by rw [hdCmp, if_neg (fun k => k h1), if_pos h]
theorem hd3 {x y : Tm} {r : Int} (h1 : x.kind = y.kind) (h2 : x.num = y.num) (h : ¬ x.name = y.name) : hdCmp x y r = sgn (Op.bytesLess x.name.data.toList y.name.data.toList) := by rw [hdCmp, if_neg (fun k => k h1), if_neg (fun k => k h2), if_pos h]
theorem hd4 {x y : Tm} {r : Int} (h1 : x.kind = y.kind) (h2 : x.num = y.num) (h : x.name = y.name) : hdCmp x y r = r := by rw [hdCmp, if_neg (fun k => k h1), if_neg (fun k => k h2), if_neg (fun k => k h)]
section
variable {μ : Mem}
theorem orderInts_spec (a b : Int) (h : ¬ a = b) : Gives Try.prog 134 [.int .i64 a, .int .i64 b] μ (.int .i64 (sgn (decide (a < b)))) := by
  refine Spec.mk Try.func134 (by kernel_rfl) ?_
  refine ifd (fun h1 => ret_gives ?_ rfl) (fun h1 => ?_)
  · rw [decide_eq_true h1]; rfl
  refine ifd (fun h2 => ret_gives ?_ rfl) (fun h2 => by omega)
  rw [decide_eq_false h1]; rfl
theorem l02Sign_spec (b : Bool) : Gives Try.prog 179 [.bool b] μ (.int .i64 (sgn b)) := by
  refine Spec.mk Try.func179 (by kernel_rfl) ?_
  refine if_intro (fun h1 => ret_gives ?_ rfl) (fun h1 => ret_gives ?_ rfl)
  · rw [h1]; rfl
  · rw [h1]; rfl
noncomputable def T.rest : T → T → Int
  | .pair a b, .pair c d => if a.cmp c = 0 then b.cmp d else a.cmp c
  | _, _ => 0
theorem T.cmp_eq (x y : T) : x.cmp y = hdCmp x.tm y.tm (x.rest y) := by
  cases x with
  | pair a b =>
    cases y with
    | pair c d => rw [T.cmp, hd4 (x := (T.pair a b).tm) (y := (T.pair c d).tm) rfl rfl rfl]; rfl
    | _ => rw [T.cmp]; rfl
  | _ => rw [T.cmp]; rfl
theorem T.rest_at {x y : T} {i : Nat} {p q : T} (h : ∀ j p q, j < i → x.args[j]? = some p → y.args[j]? = some q → p.cmp q = 0) (hp : x.args[i]? = some p) (hq : y.args[i]? = some q) (hne : p.cmp q ≠ 0) : x.rest y = p.cmp q := by
  cases x with
  | pair a b =>
    cases y with
    | pair c d =>
      simp only [T.rest]
      match i, hp, hq with
      | 0, hp, hq => cases hp; cases hq; rw [if_neg hne]
      | 1, hp, hq =>
        cases hp; cases hq
        have := h 0 a c (by omega) rfl rfl
        rw [if_pos this]
      | i + 2, hp, hq => simp [T.args] at hp
    | _ => simp [T.args] at hq
  | _ => simp [T.args] at hp
theorem T.rest_zero {x y : T} (h : ∀ (j : Nat) p q, j < x.args.length → x.args[j]? = some p → y.args[j]? = some q → p.cmp q = 0) : x.rest y = 0 := by
  cases x with
  | pair a b =>
    cases y with
    | pair c d =>
      have h0 := h 0 a c (by simp [T.args]) rfl rfl
      have h1 := h 1 b d (by simp [T.args]) rfl rfl
      simp only [T.rest]
      rw [if_pos h0, h1]
    | _ => rfl
  | _ => rfl
theorem T.args_kind {x y : T} (h : x.tm.kind = y.tm.kind) : x.args.length = y.args.length := by
  cases x <;> cases y <;> simp_all [T.tm, Tm.kind, T.args]
theorem T.kind4 {x : T} (h : x.tm.kind = 4) : ∃ a b, x = .pair a b := by
  cases x <;> simp_all [T.tm, Tm.kind]
theorem T.arg {μ : Mem} {x : T} {base : Option Addr} (h : Sl μ 4 base x.args.length ((x.args.map T.tm).map Tm.d)) {i : Nat} {y : T} (hy : x.args[i]? = some y) : ∃ ad, ∃ p : Option Addr × Nat, ElemAt μ base x.args.length 4 i ad (y.tm.cs p) ∧ RepV μ y.tm.d (.agg (y.tm.cs p).toArray) :=
  Tm.elem h (by simp [hy])
theorem orderTerms_spec : ∀ (x y : T) {v w : Value}, RepV μ x.tm.d v → RepV μ y.tm.d w → Gives Try.prog 135 [v, w] μ (.int .i64 (x.cmp y)) :=
  T.ind fun x ih y v w hv hw => by
    obtain ⟨b1, c1, rfl, hs1⟩ := T.inv hv
    obtain ⟨b2, c2, rfl, hs2⟩ := T.inv hw
    rw [T.cmp_eq]
    refine Spec.mk Try.func135 (by kernel_rfl) ?_
    intro r1 r2
    refine ifnd (fun h => ?_) (fun h1 => ?_)
    · exact call_gives (orderInts_spec _ _ h) (ret_gives (by rw [hd1 h]) rfl)
    refine ifnd (fun h => ?_) (fun h2 => ?_)
    · exact call_gives (orderInts_spec _ _ h) (ret_gives (by rw [hd2 h1 h]) rfl)
    refine ifnd (fun h => ?_) (fun h3 => ?_)
    · refine if_intro (fun h4 => ret_gives ?_ rfl) (fun h4 => ret_gives ?_ rfl)
      · rw [hd3 h1 h2 h, h4]; rfl
      · rw [hd3 h1 h2 h, h4]; rfl
    rw [hd4 h1 h2 h3]
    refine ifnd (fun h => ?_) (fun h4 => ?_)
    · refine ret_gives ?_ rfl
      have : x.rest y = 0 := by cases x <;> first | rfl | exact absurd rfl h
      rw [this]
    obtain ⟨a, b, rfl⟩ := T.kind4 h4
    obtain ⟨c, d, rfl⟩ := T.kind4 (h1 ▸ h4)
    obtain ⟨ad1, p1, e1, g1⟩ := T.arg hs1 (i := 0) rfl
    obtain ⟨ad2, p2, e2, g2⟩ := T.arg hs2 (i := 0) rfl
    obtain ⟨ad3, p3, e3, g3⟩ := T.arg hs1 (i := 1) rfl
    obtain ⟨ad4, p4, e4, g4⟩ := T.arg hs2 (i := 1) rfl
    refine elem_intro e1 (elem_intro e2 (call_gives (ih a (by simp [T.args]) c g1 g2) ?_))
    simp only [T.rest]
    refine ifnd (fun h => ?_) (fun h5 => ?_)
    · rw [if_neg h]; exact ret_gives rfl rfl
    · rw [if_pos h5]
      exact elem_intro e3 (elem_intro e4 (call_gives (ih b (by simp [T.args]) d g3 g4) (ret_gives rfl rfl)))
theorem l02Cmp_spec : ∀ (x y : T) {v w : Value}, RepV μ x.tm.d v → RepV μ y.tm.d w → Gives Try.prog 180 [v, w] μ (.int .i64 (x.cmp y)) :=
  T.ind fun x ih y v w hv hw => by
    obtain ⟨b1, c1, rfl, hs1⟩ := T.inv hv
    obtain ⟨b2, c2, rfl, hs2⟩ := T.inv hw
    have hn := T.args_le x
    rw [T.cmp_eq]
    refine Spec.mk Try.func180 (by kernel_rfl) ?_
    intro r1 r2
    refine ifnd (fun h => ?_) (fun h1 => ?_)
    · exact call_gives (l02Sign_spec _) (ret_gives (by rw [hd1 h]) rfl)
    refine ifnd (fun h => ?_) (fun h2 => ?_)
    · exact call_gives (l02Sign_spec _) (ret_gives (by rw [hd2 h1 h]) rfl)
    refine ifnd (fun h => ?_) (fun h3 => ?_)
    · exact call_gives (l02Sign_spec _) (ret_gives (by rw [hd3 h1 h2 h]) rfl)
    rw [hd4 h1 h2 h3]
    have hlen := T.args_kind h1
    refine loop_intro (fun i : Nat => i ≤ x.args.length ∧ ∀ j p q, j < i → x.args[j]? = some p → y.args[j]? = some q → p.cmp q = 0) (fun i => ⟨[(2, .loc 0 r1 0), (3, .loc 1 r2 0), (5, .val (.int .i64 i))], [(0, some (.cells r1 [.val (.int .i64 x.tm.kind), .val (.int .i64 x.tm.num), .val (.string x.tm.name), .val (.slice b1 x.args.length c1)] 66)), (1, some (.cells r2 [.val (.int .i64 y.tm.kind), .val (.int .i64 y.tm.num), .val (.string y.tm.name), .val (.slice b2 y.args.length c2)] 66))], 2, μ, Mem.nil⟩) (fun i => x.args.length - i)
      0 ⟨by omega, fun j p q hj => by omega⟩ (fun i => ⟨rfl, rfl⟩) ⟨⟨rfl, rfl, rfl, trivial⟩, ⟨rfl, rfl, trivial⟩, rfl, rfl⟩ ?_
    rintro i ⟨hi, hz⟩
    refine ifd (fun h => ?_) (fun h => ?_)
    · refine ifd (fun h' => ?_) (fun h' => by omega)
      obtain ⟨p, hp⟩ := at_some (l := x.args) (i := i) (by omega)
      obtain ⟨q, hq⟩ := at_some (l := y.args) (i := i) (by omega)
      obtain ⟨ad1, p1, e1, g1⟩ := T.arg hs1 hp
      obtain ⟨ad2, p2, e2, g2⟩ := T.arg hs2 hq
      refine elem_intro e1 (elem_intro e2 (call_gives (ih p (mem_at hp) q g1 g2) ?_))
      refine ifnd (fun h5 => ?_) (fun h5 => ?_)
      · rw [T.rest_at hz hp hq h5]; exact ret_gives rfl rfl
      · refine num64 (by omega) (by omega) ⟨i + 1, ⟨by omega, fun j p' q' hj hp' hq' => ?_⟩, by omega, ⟨⟨rfl, rfl, rfl, trivial⟩, ⟨rfl, rfl, trivial⟩, rfl, rfl⟩⟩
        rcases Nat.lt_or_ge j i with h6 | h6
        · exact hz j p' q' h6 hp' hq'
        · obtain rfl : j = i := by omega
          rw [hp] at hp'; rw [hq] at hq'; cases hp'; cases hq'; exact h5
    · obtain rfl : i = x.args.length := by omega
      rw [T.rest_zero hz]
      exact ret_gives rfl rfl
theorem equalTerms_spec (x y : T) {v w : Value} (hv : RepV μ x.tm.d v) (hw : RepV μ y.tm.d w) : Gives Try.prog 136 [v, w] μ (.bool (decide (x = y))) := by
  obtain ⟨p, rfl⟩ := Tm.invV hv
  obtain ⟨q, rfl⟩ := Tm.invV hw
  refine Spec.mk Try.func136 (by kernel_rfl) ?_
  intro r1 r2
  exact call_gives (orderTerms_spec x y hv hw) (ret_gives (isI (T.cmp_zero x y)) rfl)
theorem l02Same_spec (x y : T) {v w : Value} (hv : RepV μ x.tm.d v) (hw : RepV μ y.tm.d w) : Gives Try.prog 181 [v, w] μ (.bool (decide (x = y))) := by
  obtain ⟨p, rfl⟩ := Tm.invV hv
  obtain ⟨q, rfl⟩ := Tm.invV hw
  refine Spec.mk Try.func181 (by kernel_rfl) ?_
  intro r1 r2
  exact call_gives (l02Cmp_spec x y hv hw) (ret_gives (isI (T.cmp_zero x y)) rfl)
/-- A variable as a term. -/
def varV (n : Int) : Value := .agg #[.int .i64 1, .int .i64 n, .string ⟨#[]⟩, .slice none 0 0]
theorem varV_own (n : Int) : OwnV (T.var n).tm.d Mem.nil (varV n) := by
  rw [T.d_eq]
  exact ⟨_, rfl, OwnS.int (OwnS.int (OwnS.str (OwnS.last (Own.nilSl 4))))⟩
theorem varV_rep (n : Int) : RepV μ (T.var n).tm.d (varV n) := (varV_own n).rep (fun _ _ h => nomatch h)
theorem variable_spec (n : Int) : Gives Try.prog 86 [.int .i64 n] μ (varV n) := by
  refine Spec.mk Try.func86 (by kernel_rfl) ?_
  intro r1
  exact ret_gives rfl rfl
theorem l02Var_spec (n : Int) : Gives Try.prog 148 [.int .i64 n] μ (varV n) := by
  refine Spec.mk Try.func148 (by kernel_rfl) ?_
  intro r1
  exact ret_gives rfl rfl
end
end Go.Vx

/- Contracts: which substitutions are fine. -/
namespace Go.Vx
open Go.Proofs Classical
/-! ### Plain -/
def bndOk (bs : List B) (b : B) : Prop := ¬ (b.to.tm.kind = 1 ∧ b.var ≤ b.to.tm.num) ∧ ∀ n ∈ b.to.vars, sub bs n = none
def substOk (l : List Bd) : Prop := valsOk l ∧ ∀ b ∈ l.map Bd.b, bndOk (l.map Bd.b) b
theorem B.bd_b (b : B) : b.bd.b = b := by
  cases b; simp [B.bd, Bd.b, T.toT_tm]
theorem B.map_b (bs : List B) : (bs.map B.bd).map Bd.b = bs := by
  rw [List.map_map]
  conv => rhs; rw [← List.map_id bs]
  exact List.map_congr_left fun b _ => B.bd_b b
/-- A fine list of bindings, as terms. -/
structure Vals (bs : List B) : Prop where
  ok : valsOk (bs.map B.bd)
theorem Vals.len {bs : List B} (h : Vals bs) : bs.length ≤ 400 := by have := h.ok.1; simpa using this
theorem Vals.srt {bs : List B} (h : Vals bs) : Srt bs := by have := h.ok.srt; rwa [B.map_b] at this
theorem Vals.tok {bs : List B} (h : Vals bs) : ∀ b ∈ bs, b.to.ok := by have := h.ok.lift.2; rwa [B.map_b] at this
theorem Vals.var {bs : List B} (h : Vals bs) : ∀ b ∈ bs, 0 ≤ b.var ∧ b.var ≤ 100000 := fun b hb => by
  obtain ⟨i, hi⟩ := List.mem_iff_getElem?.1 hb
  exact (h.ok.2 i b.bd (by simp [hi])).1
theorem valsOk.vals {l : List Bd} (h : valsOk l) : ∃ bs : List B, l = bs.map B.bd ∧ Vals bs := ⟨l.map Bd.b, h.lift.1.symm, ⟨by rw [h.lift.1]; exact h⟩⟩
structure Subst (bs : List B) : Prop where
  vals : Vals bs
  bnd : ∀ b ∈ bs, bndOk bs b
theorem substOk_iff (bs : List B) : substOk (bs.map B.bd) ↔ Subst bs := by
  unfold substOk
  rw [B.map_b]
  exact ⟨fun h => ⟨⟨h.1⟩, h.2⟩, fun h => ⟨h.1.1, h.2⟩⟩
theorem substOk.subst {l : List Bd} (h : substOk l) : ∃ bs : List B, l = bs.map B.bd ∧ Subst bs := by
  obtain ⟨bs, rfl, _⟩ := h.1.vals
  exact ⟨bs, rfl, (substOk_iff bs).1 h⟩
section
variable {μ : Mem}
theorem spec_SubstOk_spec {l : List Bd} {base : Option Addr} {cap : Nat} (hsl : Sl μ 5 base l.length (l.map Bd.d)) (hw : D.wds (l.map Bd.d)) : Gives Try.prog 68 [.slice base l.length cap] μ (.bool (decide (substOk l))) := by
  refine Spec.forget (Spec.mk Try.func68 (by kernel_rfl) ?_)
  refine call_gives (l04Values_spec hsl hw) ?_
  refine ifnd (fun h => ret_plain (isF fun k => h k.1)) (fun hv => ?_)
  obtain ⟨bs, rfl, hbs⟩ := hv.vals
  rw [List.length_map] at hsl ⊢
  have hn := hbs.len
  refine loop_intro (fun p : Nat × Mem => p.1 ≤ bs.length ∧ μ.Le p.2 ∧ ∀ (j : Nat) b, j < p.1 → bs[j]? = some b → bndOk bs b)
    (fun (i, μ') => ⟨[(0, .val (.slice base bs.length cap)), (12, .val (.slice base bs.length cap)), (13, .val (.int .i64 bs.length)), (14, .val (.int .i64 i))], [], 0, μ', Mem.nil⟩) (fun p => bs.length - p.1)
    (0, μ) ⟨by simp, Mem.Le.refl μ, fun j b hj => by simp at hj⟩ (fun (_, _) => ⟨rfl, rfl⟩) ⟨⟨rfl, rfl, rfl, rfl, trivial⟩, trivial, rfl, rfl⟩ ?_
  rintro ⟨i, μ'⟩ ⟨hi, hle, hall⟩
  dsimp only at hi hle hall
  refine ifd (fun h => ?_) (fun h => ?_)
  · obtain ⟨b, hb⟩ := at_some (l := bs) (i := i) (by omega)
    obtain ⟨ad, p, hel, hto⟩ := B.elem (hsl.mono hle) hb
    have hsz := (hbs.tok b (mem_at hb)).2
    have hvs := T.vars_size b.to
    have bad : ¬ bndOk bs b → Value.bool false = .bool (decide (substOk (bs.map B.bd))) := fun k => isF fun hs => k (((substOk_iff bs).1 hs).bnd b (mem_at hb))
    refine elem_intro hel ?_
    intro r
    refine ifd (fun h1 => ?_) (fun h1 => ?_)
    · refine ifd (fun h2 => ret_plain (bad fun k => k.1 ⟨h1, h2⟩)) (fun h2 => ?_)
      have hk : ¬ (b.to.tm.kind = 1 ∧ b.var ≤ b.to.tm.num) := fun k => h2 k.2
      refine call_plain (l02Vars_spec b.to (l := []) hto (Rep.nilSl 1) (by simp; omega)) fun v μ2 hle2 hR => ?_
      obtain ⟨rs, hrs, hmem, hlen⟩ := hR
      obtain ⟨vb, vc, rfl, hvs⟩ := Rep.sl hrs
      rw [List.length_map] at hvs hrs ⊢
      have hsl2 := (hsl.mono hle).mono hle2
      refine loop_intro (fun k : Nat => k ≤ rs.length ∧ ∀ (j : Nat) n, j < k → rs[j]? = some n → sub bs n = none)
        (fun k => ⟨[(0, .val (.slice base bs.length cap)), (12, .val (.slice base bs.length cap)), (13, .val (.int .i64 bs.length)), (14, .val (.int .i64 i)), (32, .val (.slice vb rs.length vc)), (33, .val (.int .i64 rs.length)), (34, .val (.int .i64 k))], [], 0, μ2, Mem.nil⟩) (fun k => rs.length - k)
        0 ⟨by omega, fun j n hj => by omega⟩ (fun k => ⟨rfl, rfl⟩) ⟨⟨rfl, rfl, rfl, rfl, rfl, rfl, rfl, trivial⟩, trivial, rfl, rfl⟩ ?_
      rintro k ⟨hkl, hz⟩
      have hrl : rs.length ≤ 5000 := by simp at hlen; omega
      refine ifd (fun h5 => ?_) (fun h5 => ?_)
      · obtain ⟨n, hn'⟩ := at_some (l := rs) (i := k) (by omega)
        obtain ⟨ad2, hel2⟩ := Ints.elem hvs hn'
        refine elem_intro hel2 ?_
        refine call_plain (l04Get_spec hsl2) fun v' μ3 hle3 hR3 => ?_
        obtain ⟨hR3, e3⟩ := hR3
        obtain rfl := e3.symm
        cases hs : sub bs n with
        | some y =>
          rw [hs] at hR3
          obtain ⟨tv, rfl, htv⟩ := hR3
          obtain ⟨q, rfl⟩ := Tm.invV htv
          intro r7
          refine if_intro (fun _ => ret_plain (bad fun k => ?_)) (fun h => nomatch h)
          have := k.2 n (((hmem n).1 (mem_at hn')).elim id (fun h => absurd h (by simp)))
          rw [hs] at this; cases this
        | none =>
          rw [hs] at hR3
          obtain rfl := hR3
          intro r7
          refine if_intro (fun h => nomatch h) (fun _ => ?_)
          refine num64 (by omega) (by omega) ⟨k + 1, ⟨by omega, fun j m hj hm => ?_⟩, by omega, ⟨⟨rfl, rfl, rfl, rfl, rfl, rfl, rfl, trivial⟩, trivial, rfl, rfl⟩⟩
          rcases Nat.lt_or_ge j k with h6 | h6
          · exact hz j m h6 hm
          · obtain rfl : j = k := by omega
            rw [hn'] at hm; cases hm; exact hs
      · obtain rfl : k = rs.length := by omega
        refine num64 (by omega) (by omega) ⟨(i + 1, μ2), ⟨by dsimp only; omega, hle.trans hle2, fun j c hj hc => ?_⟩, by dsimp only; omega, ⟨⟨rfl, rfl, rfl, rfl, trivial⟩, trivial, rfl, rfl⟩⟩
        dsimp only at hj
        rcases Nat.lt_or_ge j i with h6 | h6
        · exact hall j c h6 hc
        · obtain rfl : j = i := by omega
          rw [hb] at hc; cases hc
          refine ⟨hk, fun n hnv => ?_⟩
          obtain ⟨m, hm⟩ := List.mem_iff_getElem?.1 ((hmem n).2 (.inl hnv))
          exact hz m n (List.getElem?_eq_some_iff.1 hm).1 hm
    · have hk : ¬ (b.to.tm.kind = 1 ∧ b.var ≤ b.to.tm.num) := fun k => h1 k.1
      refine call_plain (l02Vars_spec b.to (l := []) hto (Rep.nilSl 1) (by simp; omega)) fun v μ2 hle2 hR => ?_
      obtain ⟨rs, hrs, hmem, hlen⟩ := hR
      obtain ⟨vb, vc, rfl, hvs⟩ := Rep.sl hrs
      rw [List.length_map] at hvs hrs ⊢
      have hsl2 := (hsl.mono hle).mono hle2
      refine loop_intro (fun k : Nat => k ≤ rs.length ∧ ∀ (j : Nat) n, j < k → rs[j]? = some n → sub bs n = none)
        (fun k => ⟨[(0, .val (.slice base bs.length cap)), (12, .val (.slice base bs.length cap)), (13, .val (.int .i64 bs.length)), (14, .val (.int .i64 i)), (32, .val (.slice vb rs.length vc)), (33, .val (.int .i64 rs.length)), (34, .val (.int .i64 k))], [], 0, μ2, Mem.nil⟩) (fun k => rs.length - k)
        0 ⟨by omega, fun j n hj => by omega⟩ (fun k => ⟨rfl, rfl⟩) ⟨⟨rfl, rfl, rfl, rfl, rfl, rfl, rfl, trivial⟩, trivial, rfl, rfl⟩ ?_
      rintro k ⟨hkl, hz⟩
      have hrl : rs.length ≤ 5000 := by simp at hlen; omega
      refine ifd (fun h5 => ?_) (fun h5 => ?_)
      · obtain ⟨n, hn'⟩ := at_some (l := rs) (i := k) (by omega)
        obtain ⟨ad2, hel2⟩ := Ints.elem hvs hn'
        refine elem_intro hel2 ?_
        refine call_plain (l04Get_spec hsl2) fun v' μ3 hle3 hR3 => ?_
        obtain ⟨hR3, e3⟩ := hR3
        obtain rfl := e3.symm
        cases hs : sub bs n with
        | some y =>
          rw [hs] at hR3
          obtain ⟨tv, rfl, htv⟩ := hR3
          obtain ⟨q, rfl⟩ := Tm.invV htv
          intro r7
          refine if_intro (fun _ => ret_plain (bad fun k => ?_)) (fun h => nomatch h)
          have := k.2 n (((hmem n).1 (mem_at hn')).elim id (fun h => absurd h (by simp)))
          rw [hs] at this; cases this
        | none =>
          rw [hs] at hR3
          obtain rfl := hR3
          intro r7
          refine if_intro (fun h => nomatch h) (fun _ => ?_)
          refine num64 (by omega) (by omega) ⟨k + 1, ⟨by omega, fun j m hj hm => ?_⟩, by omega, ⟨⟨rfl, rfl, rfl, rfl, rfl, rfl, rfl, trivial⟩, trivial, rfl, rfl⟩⟩
          rcases Nat.lt_or_ge j k with h6 | h6
          · exact hz j m h6 hm
          · obtain rfl : j = k := by omega
            rw [hn'] at hm; cases hm; exact hs
      · obtain rfl : k = rs.length := by omega
        refine num64 (by omega) (by omega) ⟨(i + 1, μ2), ⟨by dsimp only; omega, hle.trans hle2, fun j c hj hc => ?_⟩, by dsimp only; omega, ⟨⟨rfl, rfl, rfl, rfl, trivial⟩, trivial, rfl, rfl⟩⟩
        dsimp only at hj
        rcases Nat.lt_or_ge j i with h6 | h6
        · exact hall j c h6 hc
        · obtain rfl : j = i := by omega
          rw [hb] at hc; cases hc
          refine ⟨hk, fun n hnv => ?_⟩
          obtain ⟨m, hm⟩ := List.mem_iff_getElem?.1 ((hmem n).2 (.inl hnv))
          exact hz m n (List.getElem?_eq_some_iff.1 hm).1 hm
  · obtain rfl : i = bs.length := by omega
    exact ret_plain (isT ((substOk_iff bs).2 ⟨hbs, fun b hb => by
      obtain ⟨j, hj⟩ := List.mem_iff_getElem?.1 hb
      exact hall j b (List.getElem?_eq_some_iff.1 hj).1 hj⟩))
/-- A cell of one's own beside other memory. -/
def boolOn (H : Mem) (r : Nat) (b : Bool) : Mem := H.set r (.cells #[.bool b] 4 (0, 0))
noncomputable def unbound (bs : List B) (f : Bool) (n : Int) : Bool := if sub bs n = none then f else false
theorem SubstOk1_spec {bs : List B} {base : Option Addr} {cap : Nat} {H : Mem} {r1 : Nat} {t1 : TypeId} (r : Nat) (b : Bool) (n : Int) (hs : Srt bs) (hlen : bs.length ≤ 1000000000) (hsl : Sl μ 5 base bs.length ((bs.map B.bd).map Bd.d)) (h1 : μ r1 = some (.cells #[.slice base bs.length cap] t1 (0, 0))) :
    SpecH Try.prog 129 [.int .i64 n, .pointer (some ⟨r1, 0, none⟩), .pointer (some ⟨r, 0, none⟩)] μ (boolOn H r b) fun v μ' h' => v = .tuple #[] ∧ μ' = μ ∧ h' = boolOn H r (unbound bs b n) := by
  refine SpecH.mk [] Try.func129 (by kernel_rfl) ?_
  refine ext_intro [.slice base bs.length cap] rfl (box_at h1) ?_
  refine call_plain (find_spec hs hlen hsl) fun v μ2 hle2 hR => ?_
  obtain ⟨hR, e2⟩ := hR
  obtain rfl := e2.symm
  rcases hR with ⟨i, c, rfl, hc, hn⟩ | ⟨rfl, hno⟩
  · refine ifd (fun _ => ?_) (fun h => absurd h (by omega))
    refine sto_intro (h := boolOn H r b) (a := ⟨r, 0, none⟩) [.bool b] 4 (set_self _ _ _) rfl ?_ ?_
    · exact Nat.le_refl _
    have e : sub bs n ≠ none := by rw [sub_some hs hc hn]; exact fun h => nomatch h
    exact ret_plain ⟨rfl, rfl, by rw [unbound, if_neg e]; exact Mem.set_set _ _ _ _⟩
  · refine ifd (fun h => absurd h (by omega)) (fun _ => ?_)
    exact ret_plain ⟨rfl, rfl, by rw [unbound, if_pos (sub_none hno)]⟩
theorem unbound_all (bs : List B) : ∀ (l : List Int) (f : Bool), l.foldl (unbound bs) f = (f && decide (∀ n ∈ l, sub bs n = none))
  | [], f => by simp
  | n :: l, f => by
    rw [List.foldl_cons, unbound_all bs l, unbound]
    by_cases h : sub bs n = none <;> simp [h]
theorem impl_SubstOk_spec {l : List Bd} {base : Option Addr} {cap : Nat} (hsl : Sl μ 5 base l.length (l.map Bd.d)) : Gives Try.prog 61 [.slice base l.length cap] μ (.bool (decide (substOk l))) := by
  refine Spec.forget (Spec.mkO [5] Try.func61 (by kernel_rfl) ?_)
  intro r1
  refine call_frz [0] ?_
  intro μ1 hle1 hno1 hat1
  refine call_go (impl_ValuesOk_spec (hsl.mono hle1)) fun v μ2 hle2 hR => ?_
  obtain ⟨rfl, e2⟩ := hR
  obtain rfl := e2.symm
  refine ifnd (fun h => ret_plain (isF fun k => h k.1)) (fun hv => ?_)
  obtain ⟨bs, rfl, hbs⟩ := hv.vals
  rw [List.length_map] at hsl hat1 ⊢
  have hn := hbs.len
  have hsl1 := hsl.mono hle1
  refine ext_intro [.slice base bs.length cap] rfl (box_at hat1) ?_
  refine loop_intro (fun p : Nat × Mem => p.1 ≤ bs.length ∧ ∀ (j : Nat) b, j < p.1 → bs[j]? = some b → bndOk bs b)
    (fun (i, H) => ⟨[(1, .loc 0 r1 0), (9, .val (.slice base bs.length cap)), (10, .val (.int .i64 bs.length)), (11, .val (.int .i64 i))], [], 1, μ1, H⟩) (fun p => bs.length - p.1)
    (0, Mem.nil) ⟨by simp, fun j b hj => by simp at hj⟩ (fun (_, _) => ⟨rfl, rfl⟩) ⟨⟨rfl, rfl, rfl, rfl, trivial⟩, trivial, rfl, rfl⟩ ?_
  rintro ⟨i, H⟩ ⟨hi, hall⟩
  dsimp only at hi hall
  refine ifd (fun h => ?_) (fun h => ?_)
  · obtain ⟨b, hb⟩ := at_some (l := bs) (i := i) (by omega)
    obtain ⟨ad, p, hel, hto⟩ := B.elem hsl1 hb
    have bad : ¬ bndOk bs b → Value.bool false = .bool (decide (substOk (bs.map B.bd))) := fun k => isF fun hs => k (((substOk_iff bs).1 hs).bnd b (mem_at hb))
    refine elem_intro hel ?_
    intro r r5 hm5 ho5
    refine sto_intro [.bool false] 4 (set_self _ _ _) rfl ?_ ?_
    · exact Nat.le_refl _
    have e : ((H.set r5 (.cells #[.bool false] 4 (0, 0))).set r5 (.cells #[.bool true] 4 (0, 0))) = boolOn H r5 true := Mem.set_set _ _ _ _
    refine call_own (R := fun r μ' h' => r = .tuple #[] ∧ μ' = μ1 ∧ h' = boolOn H r5 (b.to.vars.foldl (unbound bs) true)) ?_ fun v μ' h' hle hap hR => ?_
    · have := eachVar_spec (μ := μ1) (boolOn H r5) (unbound bs) (Q := fun _ => True) (fun s n _ => SubstOk1_spec (H := H) r5 s n hbs.srt (by omega) hsl1 hat1) b.to true hto (fun _ _ => trivial)
      rw [← e] at this
      exact this
    obtain ⟨rfl, e4, rfl⟩ := hR
    obtain rfl := e4.symm
    rw [unbound_all, Bool.true_and]
    refine own_intro [.bool (decide (∀ n ∈ b.to.vars, sub bs n = none))] rfl (fun j v hj => ?_) ?_
    · match j, hj with
      | 0, hj => cases hj; simp [boolOn, Mem.cell, Addr.add_lit', set_self]
    have fin : bndOk bs b → ∀ (j : Nat) c, j < i + 1 → bs[j]? = some c → bndOk bs c := fun hok j c hj hc => by
      rcases Nat.lt_or_ge j i with h6 | h6
      · exact hall j c h6 hc
      · obtain rfl : j = i := by omega
        rw [hb] at hc; cases hc; exact hok
    refine ifnd (fun h1 => ret_plain (bad fun k => h1 k.2)) (fun h1 => ?_)
    refine ifd (fun h2 => ?_) (fun h2 => ?_)
    · refine ifd (fun h3 => ret_plain (bad fun k => k.1 ⟨h2, h3⟩)) (fun h3 => ?_)
      exact num64 (by omega) (by omega) ⟨(i + 1, _), ⟨by dsimp only; omega, fin ⟨fun k => h3 k.2, h1⟩⟩, by dsimp only; omega, ⟨⟨rfl, rfl, rfl, rfl, trivial⟩, trivial, rfl, rfl⟩⟩
    · exact num64 (by omega) (by omega) ⟨(i + 1, _), ⟨by dsimp only; omega, fin ⟨fun k => h2 k.1, h1⟩⟩, by dsimp only; omega, ⟨⟨rfl, rfl, rfl, rfl, trivial⟩, trivial, rfl, rfl⟩⟩
  · obtain rfl : i = bs.length := by omega
    exact ret_plain (isT ((substOk_iff bs).2 ⟨hbs, fun b hb => by
      obtain ⟨j, hj⟩ := List.mem_iff_getElem?.1 hb
      exact hall j b (List.getElem?_eq_some_iff.1 hj).1 hj⟩))
end
end Go.Vx

/- Contracts: marks held by bindings. -/
namespace Go.Vx
open Go.Proofs Classical
section
variable {μ : Mem}
theorem heldBindingS_spec {l : List Bd} {v : Value} {k : Int} (ho : RepV μ (.sl 5 (D.mks (l.map Bd.d) k).1) v) (hk : 0 ≤ k) (hk2 : k + D.cnts (l.map Bd.d) ≤ 9223372036854775807) :
    Gives Try.prog 28 [v, .int .i64 k] μ (.int .i64 (D.mks (l.map Bd.d) k).2) := by
  obtain ⟨base, cap, rfl, hsl⟩ := Rep.sl ho
  have hm' := Nat.le_trans hsl.max (show maxLen ≤ 9223372036854775807 by decide)
  rw [D.mks_length] at hm' hsl ⊢
  refine Spec.mk Try.func28 (by kernel_rfl) ?_
  generalize hxs : l.map Bd.d = xs at *
  refine loop_intro (fun i : Nat => i ≤ xs.length) (fun i => ⟨[(0, .val (.slice base xs.length cap)), (1, .val (.int .i64 (D.mks (xs.take i) k).2)), (5, .val (.int .i64 i))], [], 0, μ, Mem.nil⟩) (fun i => xs.length - i)
    0 (by simp) (fun i => ⟨rfl, rfl⟩) ⟨⟨rfl, rfl, rfl, trivial⟩, trivial, rfl, rfl⟩ ?_
  intro i hi
  have hge := D.mks_cnt (xs.take i) k
  refine ifd (fun h => ?_) (fun h => ?_)
  · obtain ⟨t, ht⟩ := at_some (l := l) (i := i) (by rw [← hxs] at h; simp at h; omega)
    have hx : xs[i]? = some t.d := by rw [← hxs]; simp [ht]
    have hcnt := Marking.cnt (k := k) hx
    rw [Bd.cnt_eq] at hcnt
    obtain ⟨ad, cs, hel, hcs⟩ := hsl.get i _ (D.mks_get hx k)
    have hmk := D.mks_take hx k
    have hmk2 := Bd.mk_eq t (D.mks (xs.take i) k).2
    rw [hmk2] at hcs
    obtain ⟨_, _, rfl, rfl, c8, c9, rfl, h8, rfl⟩ := hcs
    obtain ⟨_, _, rfl, rfl, _, _, rfl, rfl, _, _, rfl, rfl, c7, _, rfl, h7, rfl⟩ := h8
    have hl := Rep.len _ _ h7
    match c7, hl with
    | [v], _ =>
      have h7' := h7
      obtain ⟨b2, cap2, rfl, _⟩ := h7'.sl
      have hge2 := D.mks_cnt (t.to.args.map Tm.d) ((D.mks (xs.take i) k).2 + 1 + 1 + 1 + 1)
      refine elem_intro hel (ifnd (fun h => absurd rfl h) fun _ => ?_)
      refine num64 (by omega) (by omega) ?_
      refine elem_intro hel (ifnd (fun h => absurd rfl h) fun _ => ?_)
      refine num64 (by omega) (by omega) ?_
      refine elem_intro hel (ifnd (fun h => absurd rfl h) fun _ => ?_)
      refine num64 (by omega) (by omega) ?_
      refine elem_intro hel ?_
      refine call_gives (markText_spec _ (by omega)) ?_
      refine ifnd (fun h => absurd rfl h) fun _ => ?_
      refine num64 (by omega) (by omega) ?_
      refine elem_intro hel ?_
      refine call_gives (heldTermS_spec h7 (by omega) (by omega)) ?_
      refine ifd (fun h => absurd h (by omega)) (fun _ => ?_)
      refine num64 (by omega) (by omega) ?_
      exact ⟨i + 1, by omega, by omega, ⟨⟨rfl, by rw [hmk, hmk2]; rfl, rfl, trivial⟩, trivial, rfl, rfl⟩⟩
  · have hi' : i = xs.length := by omega
    subst hi'
    rw [List.take_length]
    exact ret_gives rfl rfl
end
end Go.Vx

/- What the texts on types of data share. -/
namespace Go.Vx
open Go.Proofs Classical
abbrev Tm.P := Option Addr × Nat
abbrev Bd.P := Option Addr × Nat
section
variable {μ : Mem}
theorem Tm.invR {t : Tm} {cs : List Value} (h : Rep μ t.d cs) : ∃ p : Tm.P, cs = t.cs p ∧ RepV μ t.d (.agg (t.cs p).toArray) := by
  obtain ⟨p, rfl⟩ := Tm.invC h
  exact ⟨p, rfl, Tm.rep h⟩
theorem Bd.invR {b : Bd} {cs : List Value} (h : Rep μ b.d cs) : ∃ p : Bd.P, cs = b.cs p ∧ RepV μ b.d (.agg (b.cs p).toArray) := by
  obtain ⟨p, rfl, _⟩ := Bd.invS h
  exact ⟨p, rfl, _, rfl, h⟩
theorem Tm.ownR {t : Tm} {h : Mem} {cs : List Value} (k : Own t.d h cs) : ∃ p : Tm.P, cs = t.cs p ∧ OwnV (.sl 4 (t.args.map Tm.d)) h (.slice p.1 t.args.length p.2) := by
  obtain ⟨v, rfl, hv⟩ := Tm.own k
  obtain ⟨b, c, rfl⟩ := OwnV.slice hv
  rw [List.length_map] at hv ⊢
  exact ⟨(b, c), rfl, hv⟩
theorem Bd.ownR {t : Bd} {h : Mem} {cs : List Value} (k : Own t.d h cs) : ∃ p : Bd.P, cs = t.cs p ∧ OwnV (.sl 4 (t.to.args.map Tm.d)) h (.slice p.1 t.to.args.length p.2) := by
  obtain ⟨v, rfl, hv⟩ := Bd.own k
  obtain ⟨b, c, rfl⟩ := OwnV.slice hv
  rw [List.length_map] at hv ⊢
  exact ⟨(b, c), rfl, hv⟩
theorem Bd.d_eq (b : Bd) : b.d = .st [.i b.var, b.to.d] := rfl
theorem one_of {α : Type} {l : List α} (h : l.length = 1) : ∃ v, l = [v] := List.length_eq_one_iff.1 h
/-- Fresh memory of the parts of a struct. -/
def FreshS (μ μ' : Mem) (ds : List D) (cs : List Value) : Prop := ∃ g : Mem, OwnS ds g cs ∧ g.Le μ' ∧ ∀ b, g b ≠ none → μ b = none
variable {μ1 μ' : Mem}
theorem FreshS.nil : FreshS μ μ' [] [] := ⟨Mem.nil, ⟨rfl, rfl⟩, (fun _ _ h => nomatch h), fun _ h => absurd rfl h⟩
theorem FreshS.int {n : Int} {ds : List D} {cs : List Value} (k : FreshS μ μ' ds cs) : FreshS μ μ' (.i n :: ds) (.int .i64 n :: cs) := by
  obtain ⟨g, a, b, c⟩ := k
  exact ⟨g, OwnS.int a, b, c⟩
theorem FreshS.bool {n : Bool} {ds : List D} {cs : List Value} (k : FreshS μ μ' ds cs) : FreshS μ μ' (.b n :: ds) (.bool n :: cs) := by
  obtain ⟨g, a, b, c⟩ := k
  exact ⟨g, OwnS.bool a, b, c⟩
theorem FreshS.str {n : ByteArray} {ds : List D} {cs : List Value} (k : FreshS μ μ' ds cs) : FreshS μ μ' (.s n :: ds) (.string n :: cs) := by
  obtain ⟨g, a, b, c⟩ := k
  exact ⟨g, OwnS.str a, b, c⟩
theorem FreshS.cons {d : D} {v : Value} {ds : List D} {cs : List Value} (k1 : Fresh μ μ1 d v) (h1 : μ.Le μ1) (h2 : μ1.Le μ') (k : FreshS μ1 μ' ds cs) : FreshS μ μ' (d :: ds) (vcells v ++ cs) := by
  obtain ⟨g1, a1, b1, c1⟩ := k1
  obtain ⟨g, a, b, c⟩ := k
  refine ⟨g1.join g, OwnS.cons (Parts.join (fresh_apart b1 c)) a1.cells a, join_le (b1.trans h2) b, fun x hx => ?_⟩
  rcases join_ne hx with h | h
  · exact c1 x h
  · have h3 := c x h
    cases h0 : μ x with
    | none => rfl
    | some o => rw [h1 x o h0] at h3; cases h3
theorem FreshS.mono {μ0 : Mem} {ds : List D} {cs : List Value} (k : FreshS μ1 μ' ds cs) (h : μ0.Le μ1) : FreshS μ0 μ' ds cs := by
  obtain ⟨g, a, b, c⟩ := k
  refine ⟨g, a, b, fun x hx => ?_⟩
  have h3 := c x hx
  cases h0 : μ0 x with
  | none => rfl
  | some o => rw [h x o h0] at h3; cases h3
theorem FreshS.st {ds : List D} {cs : List Value} (k : FreshS μ μ' ds cs) : Fresh μ μ' (.st ds) (.agg cs.toArray) := by
  obtain ⟨g, a, b, c⟩ := k
  exact ⟨g, ⟨cs, rfl, a⟩, b, c⟩
/-- One part of an element's memory is lent, and comes back. -/
theorem mark_step {hh M G g G' : Mem} {r : Nat} (hr : hh r = none) (p : Parts hh M G) (q : Parts G g G') :
    ∃ mm : Mem, ∀ o, Parts (hh.set r o) g (mm.set r o) ∧ ∀ h' H', Parts H' h' (mm.set r o) → ∃ M' hh' : Mem, H' = hh'.set r o ∧ hh' r = none ∧ h' r = none ∧ Apart h' M ∧ Parts M' h' M ∧ Parts hh' M' G' := by
  obtain ⟨mm, p1, p2⟩ := p.assoc q.symm
  have hm : mm r = none := by
    cases h : mm r with
    | none => rfl
    | some x => have := p2.left r x h; rw [hr] at this; cases this
  refine ⟨mm, fun o => ⟨(p2.symm.set hr), fun h' H' pH => ?_⟩⟩
  obtain ⟨a1, a2, rfl⟩ := back_of hm pH
  obtain ⟨M', m1, m2⟩ := (Parts.join a1).assoc p1
  refine ⟨M', h'.join mm, rfl, by rw [Mem.join_get, a2]; exact hm, a2, ?_, m1, m2⟩
  intro b hb
  cases h : M b with
  | none => rfl
  | some x => have := a1 b hb; rw [p1.left b x h] at this; cases this
theorem Mem.nil_join (g : Mem) : Mem.nil.join g = g := rfl
theorem Parts.none_of {h g k : Mem} {r : Nat} (p : Parts h g k) (h1 : g r = none) (h2 : k r = none) : h r = none := by
  rcases p r with ⟨e, _⟩ | ⟨e, _⟩
  · rw [e]; exact h1
  · rw [e]; exact h2
end
end Go.Vx

/- Contracts: the laws' own functions on lists of substitutions: sizes, copies, equality, marks; what an argument reads. -/
namespace Go.Vx
open Go.Proofs Classical
/-- A list of bindings as an element of another list. -/
structure Ds where
  bs : List Bd
def Ds.d (x : Ds) : D := .sl 5 (x.bs.map Bd.d)
theorem Ds.d_eq (x : Ds) : x.d = .sl 5 (x.bs.map Bd.d) := rfl
theorem Ds.d_n (x : Ds) : x.d.n = 1 := rfl
abbrev Ds.P := Option Addr × Nat
/-- The cells of a value. -/
def Ds.cs (x : Ds) (p : Ds.P) : List Value := [.slice p.1 x.bs.length p.2]
section
variable {μ : Mem}
theorem Ds.invV {x : Ds} {v : Value} (h : RepV μ x.d v) : ∃ p : Ds.P, v = .slice p.1 x.bs.length p.2 := by
  obtain ⟨b, c, rfl, _⟩ := Rep.sl (xs := x.bs.map Bd.d) h
  exact ⟨(b, c), by rw [List.length_map]⟩
theorem Ds.inv {x : Ds} {v : Value} (h : RepV μ x.d v) : ∃ p : Ds.P, v = .slice p.1 x.bs.length p.2 ∧ Sl μ 5 p.1 x.bs.length (x.bs.map Bd.d) := by
  obtain ⟨b, c, rfl, hs⟩ := Rep.sl (xs := x.bs.map Bd.d) h
  rw [List.length_map] at hs
  exact ⟨(b, c), by rw [List.length_map], hs⟩
theorem Ds.elem {l : List Ds} {base : Option Addr} {n : Nat} (h : Sl μ 1 base n (l.map Ds.d)) {i : Nat} {x : Ds} (hx : l[i]? = some x) : ∃ ad, ∃ p : Ds.P, ElemAt μ base n 1 i ad (x.cs p) ∧ RepV μ x.d (.slice p.1 x.bs.length p.2) := by
  obtain ⟨ad, cs, h1, h2⟩ := h.get i x.d (by simp [hx])
  have h3 : Rep μ (.sl 5 (x.bs.map Bd.d)) cs := h2
  have hl := Rep.len _ _ h3
  match cs, hl with
  | [v], _ =>
    obtain ⟨p, rfl⟩ := Ds.invV (x := x) h3
    exact ⟨ad, p, h1, h3⟩
theorem szBindingS_el (x : Ds) {v : Value} {left : Int} (h : RepV μ x.d v) (hl : 0 ≤ left) (hl2 : left ≤ 1048576) (hw : x.d.wd) : Gives Try.prog 22 [v, .int .i64 left] μ (.int .i64 (szR left x.d.sz)) := by
  obtain ⟨p, rfl, hs⟩ := Ds.inv h
  have := szBindingS_spec (cap := p.2) hs hl hl2 hw
  rw [Ds.d_eq, D.sz, List.length_map]
  exact this
theorem toBindingS_el (x : Ds) {μ : Mem} {v : Value} (h : RepV μ x.d v) (hb : x.d.sz ≤ 1048576) : Spec Try.prog 24 [v] μ fun v μ' => Fresh μ μ' x.d v := by
  obtain ⟨p, rfl, hs⟩ := Ds.inv h
  rw [Ds.d_eq, D.sz, List.length_map] at hb
  exact toBindingS_spec hs hb
theorem eqBindingS_el (x : Ds) {v v' : Value} (h : RepV μ x.d v) (h' : RepV μ x.d v') : Gives Try.prog 26 [v, v'] μ (.bool true) := by
  obtain ⟨p, rfl, hs⟩ := Ds.inv h
  obtain ⟨p', rfl, hs'⟩ := Ds.inv h'
  exact eqBindingS_spec hs hs'
theorem szBindingSS_of {l : List Ds} (he : ∀ t ∈ l, ∀ {v : Value} {left : Int}, RepV μ t.d v → 0 ≤ left → left ≤ 1048576 → t.d.wd → Gives Try.prog 22 [v, .int .i64 left] μ (.int .i64 (szR left t.d.sz)))
    {base : Option Addr} {cap : Nat} {left : Int} (hsl : Sl μ 1 base l.length (l.map Ds.d)) (hl : 0 ≤ left) (hl2 : left ≤ 1048576) (hw : D.wds (l.map Ds.d)) :
    Gives Try.prog 15 [.slice base l.length cap, .int .i64 left] μ (.int .i64 (szR left (l.length + D.szs (l.map Ds.d)))) := by
  have hn := maxLen_le hsl.max
  refine Spec.mk Try.func15 (by kernel_rfl) ?_
  refine num64 (by omega) (by omega) (ifd (fun h => ret_gives ?_ rfl) (fun h => ?_))
  · rw [szR_neg (by omega)]
  refine loop_intro (fun i : Nat => i ≤ l.length ∧ (D.szs ((l.map Ds.d).take i) : Int) ≤ left - l.length) (fun i => ⟨[(0, .val (.slice base l.length cap)), (1, .val (.int .i64 (left - l.length - D.szs ((l.map Ds.d).take i)))), (5, .val (.int .i64 i))], [], 0, μ, Mem.nil⟩) (fun i => l.length - i)
    0 ⟨by omega, by simp [D.szs]; omega⟩ (fun i => ⟨rfl, rfl⟩) ⟨⟨rfl, by show some (SV.val (.int .i64 _)) = some (SV.val (.int .i64 _)); congr 3; simp [D.szs], rfl, trivial⟩, trivial, rfl, rfl⟩ ?_
  rintro i ⟨hi, hz⟩
  refine ifd (fun h => ?_) (fun h => ?_)
  · obtain ⟨t, ht⟩ := at_some (l := l) (i := i) (by omega)
    have hx := at_map (f := Ds.d) ht
    have hs := D.szs_take hx
    have hs' := D.szs_le (l.map Ds.d) (i + 1)
    obtain ⟨ad, p, hel, hr⟩ := Ds.elem hsl ht
    refine elem_intro hel (call_gives (he t (mem_at ht) hr (by omega) (by omega) (D.wds_mem hw _ (mem_at hx))) ?_)
    refine ifd (fun h => ret_gives ?_ rfl) (fun h => ?_)
    · have := szR_lt h
      rw [szR_neg (by omega)]
    · have := szR_ge h
      refine num64 (by omega) (by omega) ⟨i + 1, ⟨by omega, by omega⟩, by omega, ⟨⟨rfl, ?_, rfl, trivial⟩, trivial, rfl, rfl⟩⟩
      rw [szR_pos this, hs]
      show some (SV.val (.int .i64 _)) = some (SV.val (.int .i64 _))
      congr 3; omega
  · obtain rfl : i = l.length := by omega
    rw [List.take_of_length_le (by simp)] at hz ⊢
    refine ret_gives ?_ rfl
    rw [szR_pos (by omega)]; congr 1; omega
theorem szBindingSS_spec {l : List Ds} {base : Option Addr} {cap : Nat} {left : Int} (hsl : Sl μ 1 base l.length (l.map Ds.d)) (hl : 0 ≤ left) (hl2 : left ≤ 1048576) (hw : D.wds (l.map Ds.d)) :
    Gives Try.prog 15 [.slice base l.length cap, .int .i64 left] μ (.int .i64 (szR left (l.length + D.szs (l.map Ds.d)))) := szBindingSS_of (fun t _ _ _ h h1 h2 h3 => szBindingS_el t h h1 h2 h3) hsl hl hl2 hw
theorem toBindingSS_of {l : List Ds} (he : ∀ t ∈ l, ∀ {μ : Mem} {v : Value}, RepV μ t.d v → t.d.sz ≤ 1048576 → Spec Try.prog 24 [v] μ fun v μ' => Fresh μ μ' t.d v)
    {base : Option Addr} {cap : Nat} (hsl : Sl μ 1 base l.length (l.map Ds.d)) (hb : l.length + D.szs (l.map Ds.d) ≤ 1048576) :
    Spec Try.prog 17 [.slice base l.length cap] μ fun v μ' => Fresh μ μ' (.sl 1 (l.map Ds.d)) v := by
  refine Spec.mk Try.func17 (by kernel_rfl) ?_
  refine make_intro l.length rfl rfl (by simp only; omega) (Nat.le_trans (m := 1048576) (by omega) (by decide)) ?_
  intro r
  refine loop_intro (fun p : Nat × List Value × Mem => μ.Le p.2.2 ∧ ∃ g, Filled 1 (Value.slice none 0 0) μ p.2.2 (l.map Ds.d) p.1 p.2.1 g)
    (fun (i, xs, μ') => ⟨[(0, .val (.slice base l.length cap)), (3, .row 0 (some r) l.length l.length), (4, .val (.int .i64 i))], [(0, some (.row (some r) l.length 43 1 xs))], 1, μ', Mem.nil⟩) (fun p => l.length - p.1)
    (0, List.replicate l.length (Value.slice none 0 0), μ) ⟨Mem.Le.refl μ, _, Filled.start (by simp)⟩ (fun (_, _, _) => ⟨rfl, rfl⟩) ⟨⟨rfl, rfl, rfl, trivial⟩, ⟨rfl, trivial⟩, rfl, rfl⟩ ?_
  rintro ⟨i, xs, μ'⟩ ⟨hle, g, hf⟩
  dsimp only at hle hf
  have hi := hf.le
  have hlen := hf.len
  rw [List.length_map] at hi hlen
  refine ifd (fun h => ?_) (fun h => ?_)
  · obtain ⟨t, ht⟩ := at_some (l := l) (i := i) (by omega)
    have hx := at_map (f := Ds.d) ht
    have hs := D.szs_mem hx
    obtain ⟨ad, p, hel, hr⟩ := Ds.elem (hsl.mono hle) ht
    refine elem_intro hel (call_plain (he t (mem_at ht) hr (by omega)) fun v μ'' hle2 hfr => ?_)
    obtain ⟨g', hf'⟩ := hf.step hx (Ds.d_n t) hfr hle2
    obtain ⟨p2, rfl⟩ := Ds.invV hfr.rep
    refine rel_intro i rfl (by omega) ?_
    refine get_intro _ (hf.rest i (by omega) (by simpa using h)) ?_
    refine num64 (by omega) (by omega) ⟨(i + 1, _, μ''), ⟨hle.trans hle2, g', hf'⟩, by dsimp only; omega, ⟨⟨rfl, rfl, rfl, trivial⟩, ⟨rfl, trivial⟩, rfl, rfl⟩⟩
  · obtain rfl : i = l.length := by omega
    refine ret_frz [0] fun μ2 hle2 hno hrow => .inl ?_
    have := Fresh.ofRow (hf.all (by simp)) hf.sub hf.new hle hle2 hno hrow (Nat.le_trans (m := 1048576) (by omega) (by decide))
    rw [hlen] at this
    exact this
theorem toBindingSS_spec {l : List Ds} {base : Option Addr} {cap : Nat} (hsl : Sl μ 1 base l.length (l.map Ds.d)) (hb : l.length + D.szs (l.map Ds.d) ≤ 1048576) :
    Spec Try.prog 17 [.slice base l.length cap] μ fun v μ' => Fresh μ μ' (.sl 1 (l.map Ds.d)) v := toBindingSS_of (fun t _ _ _ => toBindingS_el t) hsl hb
theorem eqBindingSS_of {l : List Ds} (he : ∀ t ∈ l, ∀ {v v' : Value}, RepV μ t.d v → RepV μ t.d v' → Gives Try.prog 26 [v, v'] μ (.bool true))
    {base base' : Option Addr} {cap cap' : Nat} (hl : Sl μ 1 base l.length (l.map Ds.d)) (hl' : Sl μ 1 base' l.length (l.map Ds.d)) :
    Gives Try.prog 19 [.slice base l.length cap, .slice base' l.length cap'] μ (.bool true) := by
  have hn := maxLen_le hl.max
  refine Spec.mk Try.func19 (by kernel_rfl) ?_
  refine ifnd (fun h => absurd rfl h) (fun _ => ?_)
  refine loop_intro (fun i : Nat => i ≤ l.length) (fun i => ⟨[(0, .val (.slice base l.length cap)), (1, .val (.slice base' l.length cap')), (5, .val (.int .i64 i))], [], 0, μ, Mem.nil⟩) (fun i => l.length - i)
    0 (by omega) (fun i => ⟨rfl, rfl⟩) ⟨⟨rfl, rfl, rfl, trivial⟩, trivial, rfl, rfl⟩ ?_
  intro i hi
  refine ifd (fun h => ?_) (fun h => ?_)
  · obtain ⟨t, ht⟩ := at_some (l := l) (i := i) (by omega)
    obtain ⟨ad, p, hel, hr⟩ := Ds.elem hl ht
    obtain ⟨ad', p', hel', hr'⟩ := Ds.elem hl' ht
    refine elem_intro hel (elem_intro hel' (call_gives (he t (mem_at ht) hr hr') ?_))
    refine if_intro (fun h => nomatch h) (fun _ => ?_)
    exact num64 (by omega) (by omega) ⟨i + 1, by omega, by omega, ⟨⟨rfl, rfl, rfl, trivial⟩, trivial, rfl, rfl⟩⟩
  · exact ret_gives rfl rfl
theorem eqBindingSS_spec {l : List Ds} {base base' : Option Addr} {cap cap' : Nat} (hl : Sl μ 1 base l.length (l.map Ds.d)) (hl' : Sl μ 1 base' l.length (l.map Ds.d)) :
    Gives Try.prog 19 [.slice base l.length cap, .slice base' l.length cap'] μ (.bool true) := eqBindingSS_of (fun t _ _ _ => eqBindingS_el t) hl hl'
theorem Ds.mk_eq (x : Ds) (k : Int) : x.d.mk k = (.sl 5 (D.mks (x.bs.map Bd.d) k).1, (D.mks (x.bs.map Bd.d) k).2) := by
  rw [Ds.d_eq, D.mk]
theorem Ds.cnt_eq (x : Ds) : x.d.cnt = D.cnts (x.bs.map Bd.d) := by
  rw [Ds.d_eq, D.cnt]
theorem markBindingSS_spec {l : List Ds} {h : Mem} {v : Value} {k : Int} (ho : OwnV (.sl 1 (l.map Ds.d)) h v) (hk : 0 ≤ k) (hk2 : k + D.cnts (l.map Ds.d) ≤ 9223372036854775807) :
    SpecH Try.prog 20 [v, .int .i64 k] μ h fun r μ' h' => r = .int .i64 (D.mks (l.map Ds.d) k).2 ∧ μ' = μ ∧ OwnV (.sl 1 (D.mks (l.map Ds.d) k).1) h' v := by
  obtain ⟨base, cap, e, hm, hn, ho⟩ := ho
  simp only [List.cons.injEq, and_true] at e
  subst e
  have hm' : (l.map Ds.d).length ≤ 9223372036854775807 := Nat.le_trans hm.max (by decide)
  refine SpecH.mk [] Try.func20 (by kernel_rfl) ?_
  rcases ho with ⟨hnil, rfl⟩ | ⟨r, flat, rest, ty, h2, rfl, hr, rfl, ho⟩
  · rw [hnil]
    refine loop_intro (fun i : Nat => i = 0) (fun i => ⟨[(0, .val (.slice base 0 cap)), (1, .val (.int .i64 k)), (5, .val (.int .i64 i))], [], 0, μ, Mem.nil⟩) (fun i => 0 - i)
      0 rfl (fun i => ⟨rfl, rfl⟩) ⟨⟨rfl, rfl, rfl, trivial⟩, trivial, rfl, rfl⟩ ?_
    rintro i rfl
    refine ifd (fun h => by omega) (fun h => ret_plain ⟨rfl, rfl, base, cap, rfl, ⟨Nat.zero_le _, Nat.zero_le _⟩, by simp [D.mks], .inl ⟨rfl, rfl⟩⟩)
  · generalize hxs : l.map Ds.d = xs at *
    refine loop_intro (fun p : Nat × List Value × List Value × Mem => Marking xs k rest r p.1 p.2.1 p.2.2.1 p.2.2.2)
      (fun (i, pre, tail, hh) => ⟨[(0, .val (.slice (some ⟨r, 0, none⟩) xs.length cap)), (1, .val (.int .i64 (D.mks (xs.take i) k).2)), (5, .val (.int .i64 i))], [], 0, μ, hh.set r (.cells (List.toArray (pre ++ tail)) ty (0, 0))⟩) (fun p => xs.length - p.1)
      (0, [], flat ++ rest, h2) (Marking.start hr ho) (fun (_, _, _, _) => ⟨rfl, rfl⟩) ⟨⟨rfl, rfl, rfl, trivial⟩, trivial, rfl, rfl⟩ ?_
    rintro ⟨i, pre, tail, hh⟩ M
    dsimp only at M
    have hi := M.le
    have hge := D.mks_cnt (xs.take i) k
    refine ifd (fun h => ?_) (fun h => ?_)
    · obtain ⟨t, ht⟩ := at_some (l := l) (i := i) (by rw [← hxs] at h; simp at h; omega)
      have hx : xs[i]? = some t.d := by rw [← hxs]; simp [ht]
      obtain ⟨c, g, m, c2, rfl, hown, hp, hmr, back⟩ := M.next hx
      have hl := Own.len hown
      match c, hl with
      | [v], _ =>
        have hv : OwnV (.sl 5 (t.bs.map Bd.d)) g v := hown
        obtain ⟨b2, cap2, rfl⟩ := OwnV.slice hv
        have hlen := M.len hn
        have hcnt := Marking.cnt (k := k) hx
        rw [Ds.cnt_eq] at hcnt
        refine ptr_intro ⟨r, 0, none⟩ rfl (by omega) (by omega) ?_
        refine own_at (j := 0) (by simp [Addr.add_lit', hlen]) rfl ?_
        refine call_own (SpecH.frame (hp.set M.out) (markBindingS_spec hv (by omega) (by omega))) fun v μ' H' hle hap hR => ?_
        obtain ⟨h', ⟨rfl, rfl, ho'⟩, hp'⟩ := hR
        obtain ⟨a1, a2, rfl⟩ := back_of hmr hp'
        have hmk := D.mks_take hx k
        have hmk2 := Ds.mk_eq t (D.mks (xs.take i) k).2
        refine num64 (by omega) (by omega) ⟨(i + 1, pre ++ [.slice b2 (t.bs.map Bd.d).length cap2], c2 ++ rest, h'.join m), back _ _ a1 a2 ?_, by dsimp only; omega, ⟨⟨rfl, ?_, rfl, trivial⟩, trivial, rfl, ?_⟩⟩
        · rw [hmk2]
          exact ho'
        · rw [hmk, hmk2]
          rfl
        · simp
    · have hi' : i = xs.length := by omega
      subst hi'
      obtain ⟨rfl, o1⟩ := M.last
      refine ret_plain ⟨by rw [List.take_length], rfl, some ⟨r, 0, none⟩, cap, by rw [D.mks_length], by rw [D.mks_length]; exact hm, D.mks_size k hn, .inr ⟨r, pre, tail, ty, hh, rfl, M.out, rfl, o1⟩⟩
theorem heldBindingSS_spec {l : List Ds} {v : Value} {k : Int} (ho : RepV μ (.sl 1 (D.mks (l.map Ds.d) k).1) v) (hk : 0 ≤ k) (hk2 : k + D.cnts (l.map Ds.d) ≤ 9223372036854775807) :
    Gives Try.prog 21 [v, .int .i64 k] μ (.int .i64 (D.mks (l.map Ds.d) k).2) := by
  obtain ⟨base, cap, rfl, hsl⟩ := Rep.sl ho
  have hm' := Nat.le_trans hsl.max (show maxLen ≤ 9223372036854775807 by decide)
  rw [D.mks_length] at hm' hsl ⊢
  refine Spec.mk Try.func21 (by kernel_rfl) ?_
  generalize hxs : l.map Ds.d = xs at *
  refine loop_intro (fun i : Nat => i ≤ xs.length) (fun i => ⟨[(0, .val (.slice base xs.length cap)), (1, .val (.int .i64 (D.mks (xs.take i) k).2)), (5, .val (.int .i64 i))], [], 0, μ, Mem.nil⟩) (fun i => xs.length - i)
    0 (by simp) (fun i => ⟨rfl, rfl⟩) ⟨⟨rfl, rfl, rfl, trivial⟩, trivial, rfl, rfl⟩ ?_
  intro i hi
  have hge := D.mks_cnt (xs.take i) k
  refine ifd (fun h => ?_) (fun h => ?_)
  · obtain ⟨t, ht⟩ := at_some (l := l) (i := i) (by rw [← hxs] at h; simp at h; omega)
    have hx : xs[i]? = some t.d := by rw [← hxs]; simp [ht]
    have hcnt := Marking.cnt (k := k) hx
    rw [Ds.cnt_eq] at hcnt
    obtain ⟨ad, cs, hel, hcs⟩ := hsl.get i _ (D.mks_get hx k)
    have hmk := D.mks_take hx k
    have hmk2 := Ds.mk_eq t (D.mks (xs.take i) k).2
    rw [hmk2] at hcs
    have hl := Rep.len _ _ hcs
    match cs, hl with
    | [v], _ =>
      have h7 : RepV μ (.sl 5 (D.mks (t.bs.map Bd.d) (D.mks (xs.take i) k).2).1) v := hcs
      obtain ⟨b2, cap2, rfl, _⟩ := Rep.sl h7
      have hge2 := D.mks_cnt (t.bs.map Bd.d) (D.mks (xs.take i) k).2
      refine elem_intro hel ?_
      refine call_gives (heldBindingS_spec h7 (by omega) (by omega)) ?_
      refine ifd (fun h => absurd h (by omega)) (fun _ => ?_)
      exact num64 (by omega) (by omega) ⟨i + 1, by omega, by omega, ⟨⟨rfl, by rw [hmk, hmk2]; rfl, rfl, trivial⟩, trivial, rfl, rfl⟩⟩
  · have hi' : i = xs.length := by omega
    subst hi'
    rw [List.take_length]
    exact ret_gives rfl rfl
theorem read_BindingSS : Reads Try.prog 33 fun d => ∃ l : List Ds, d = .sl 1 (l.map Ds.d) ∧ D.wds (l.map Ds.d) := fun n =>
  (reads_sl ti33.kind (cellsOf_tt ti41) (fun d h => by obtain ⟨a, rfl, _⟩ := h; rfl) read_BindingS n).weaken fun d h => by
    obtain ⟨xs, rfl, hx⟩ := h
    obtain ⟨l, rfl⟩ := lift_list (f := Ds.d) fun x h => by obtain ⟨t, h, _⟩ := hx x h; exact ⟨⟨t⟩, h⟩
    exact ⟨l, rfl, D.wds_of fun x hm => by obtain ⟨t, rfl, h⟩ := hx x hm; exact h⟩
end
end Go.Vx

/- Plain: parts of a row changed about; sorted parts merged. -/
namespace Go.Vx
open Go.Sort
section
variable {α : Type} {lt : α → α → Bool}
theorem lt_asymm (hS : SWO lt) {x y : α} (h : lt x y = true) : lt y x = false := by
  cases g : lt y x with
  | false => rfl
  | true => have := hS.trans _ _ _ h g; rw [hS.irrefl] at this; cases this
theorem lt_of_not (hS : SWO lt) {x y z : α} (h : lt x z = true) (g : lt x y = false) : lt y z = true := by
  cases k : lt y z with
  | true => rfl
  | false => have := hS.ntrans _ _ _ g k; rw [h] at this; cases this
theorem lt_of_not' (hS : SWO lt) {x y z : α} (h : lt x z = true) (g : lt y z = false) : lt x y = true := by
  cases k : lt x y with
  | true => rfl
  | false => have := hS.ntrans _ _ _ k g; rw [h] at this; cases this
end
section
variable {α : Type} [Inhabited α] {lt : α → α → Bool} {d c R : Array α}
/-- [a, a + n) and [b, b + n) changed about. -/
structure Sw (a b n : Nat) (d d' : Array α) : Prop where
  size : d'.size = d.size
  fst : ∀ t, t < n → d'[a + t]! = d[b + t]!
  snd : ∀ t, t < n → d'[b + t]! = d[a + t]!
  out : ∀ k, k < a ∨ a + n ≤ k → k < b ∨ b + n ≤ k → d'[k]! = d[k]!
theorem Sw.nil (a b : Nat) (d : Array α) : Sw a b 0 d d := ⟨rfl, fun t h => by omega, fun t h => by omega, fun _ _ _ => rfl⟩
theorem Sw.step {a b n : Nat} (h : Sw a b n d c) (h1 : a + n < b) (h2 : b + n < d.size) : Sw a b (n + 1) d (swp c (a + n) (b + n)) := by
  have g : ∀ k, (swp c (a + n) (b + n))[k]! = if k = b + n then c[a + n]! else if k = a + n then c[b + n]! else c[k]! := fun k => swp_get c (by rw [h.size]; omega) (by rw [h.size]; omega) k
  refine ⟨by rw [Go.Sort.swp_size, h.size], fun t ht => ?_, fun t ht => ?_, fun k hk1 hk2 => ?_⟩
  · rw [g, if_neg (by omega)]
    by_cases e : t = n
    · subst e; rw [if_pos rfl, h.out _ (by omega) (by omega)]
    · rw [if_neg (by omega), h.fst t (by omega)]
  · rw [g]
    by_cases e : t = n
    · subst e; rw [if_pos rfl, h.out _ (by omega) (by omega)]
    · rw [if_neg (by omega), if_neg (by omega), h.snd t (by omega)]
  · rw [g, if_neg (by omega), if_neg (by omega), h.out k (by omega) (by omega)]
/-- [a, m) and [m, b) changed about. -/
structure Rot (a m b : Nat) (d d' : Array α) : Prop where
  size : d'.size = d.size
  out : ∀ k, k < a ∨ b ≤ k → d'[k]! = d[k]!
  lo : ∀ t, t < b - m → d'[a + t]! = d[m + t]!
  hi : ∀ t, t < m - a → d'[a + (b - m) + t]! = d[a + t]!
theorem Rot.same {m i : Nat} (hi : i ≤ m) (s : Sw (m - i) m i d R) : Rot (m - i) m (m + i) d R where
  size := s.size
  out k hk := s.out k (by omega) (by omega)
  lo t ht := s.fst t (by omega)
  hi t ht := by rw [show m - i + (m + i - m) + t = m + t by omega]; exact s.snd t (by omega)
theorem Rot.gt {m i j : Nat} (hi : i ≤ m) (hj : j < i) (s : Sw (m - i) m j d c) (r : Rot (m - (i - j)) m (m + j) c R) : Rot (m - i) m (m + j) d R where
  size := r.size.trans s.size
  out k hk := by rw [r.out k (by omega), s.out k (by omega) (by omega)]
  lo t ht := by rw [r.out _ (by omega), s.fst t (by omega)]
  hi t ht := by
    by_cases h : t < j
    · have := r.lo t (by omega)
      rw [show m - i + (m + j - m) + t = m - (i - j) + t by omega, this, s.snd t h]
    · obtain ⟨u, rfl⟩ : ∃ u, t = j + u := ⟨t - j, by omega⟩
      have := r.hi u (by omega)
      rw [show m - i + (m + j - m) + (j + u) = m - (i - j) + (m + j - m) + u by omega, this, s.out _ (by omega) (by omega), show m - (i - j) + u = m - i + (j + u) by omega]
theorem Rot.ls {m i j : Nat} (hi : i ≤ m) (hj : i < j) (s : Sw (m - i) (m + j - i) i d c) (r : Rot (m - i) m (m + (j - i)) c R) : Rot (m - i) m (m + j) d R where
  size := r.size.trans s.size
  out k hk := by rw [r.out k (by omega), s.out k (by omega) (by omega)]
  lo t ht := by
    by_cases h : t < j - i
    · rw [r.lo t (by omega), s.out _ (by omega) (by omega)]
    · obtain ⟨u, rfl⟩ : ∃ u, t = j - i + u := ⟨t - (j - i), by omega⟩
      have := r.hi u (by omega)
      rw [show m - i + (j - i + u) = m - i + (m + (j - i) - m) + u by omega, this, s.fst u (by omega), show m + j - i + u = m + (j - i + u) by omega]
  hi t ht := by
    rw [show m - i + (m + j - m) + t = m + j - i + t by omega, r.out _ (by omega), s.snd t (by omega)]
section
variable {s m e : Nat}
theorem Rot.at1 (r : Rot s m e d R) {k : Nat} (h : k < s) : R[k]! = d[k]! := r.out k (.inl h)
theorem Rot.at2 (r : Rot s m e d R) {k : Nat} (h : s ≤ k) (h2 : k < s + (e - m)) : R[k]! = d[m + (k - s)]! := by
  have := r.lo (k - s) (by omega)
  rwa [show s + (k - s) = k by omega] at this
theorem Rot.at3 (r : Rot s m e d R) {k : Nat} (hm : m ≤ e) (h : s + (e - m) ≤ k) (h2 : k < e) (hs : s ≤ m) : R[k]! = d[s + (k - (s + (e - m)))]! := by
  have := r.hi (k - (s + (e - m))) (by omega)
  rwa [show s + (e - m) + (k - (s + (e - m))) = k by omega] at this
theorem Rot.at4 (r : Rot s m e d R) {k : Nat} (h : e ≤ k) : R[k]! = d[k]! := r.out k (.inr h)
/-- Nothing right of q is less than anything left of it. -/
def Split (lt : α → α → Bool) (a q b : Nat) (d : Array α) : Prop := ∀ x y, a ≤ x → x < q → q ≤ y → y < b → lt d[y]! d[x]! = false
theorem sorted_join {a q b : Nat} (h1 : SortedIn lt a q d) (h2 : SortedIn lt q b d) (h : Split lt a q b d) : SortedIn lt a b d := fun i j hi hij hj => by
  by_cases h3 : j < q
  · exact h1 i j hi hij h3
  · by_cases h4 : i < q
    · exact h i j hi h4 (by omega) hj
    · exact h2 i j (by omega) hij hj
theorem SortedIn.sub {a b a' b' : Nat} (h : SortedIn lt a b d) (h1 : a ≤ a') (h2 : b' ≤ b) : SortedIn lt a' b' d := fun i j hi hij hj => h i j (by omega) hij (by omega)
/-- What a change about of [s, m) and [m, e) leaves: left and right of q = s + (e - m). -/
structure Cut (lt : α → α → Bool) (a s m e b : Nat) (d : Array α) : Prop where
  sa : a ≤ s
  sm : s ≤ m
  me : m ≤ e
  eb : e ≤ b
  lo : ∀ x y, a ≤ x → x < s → e ≤ y → y < b → lt d[y]! d[x]! = false
  hi : ∀ x y, s ≤ x → x < m → m ≤ y → y < e → lt d[x]! d[y]! = false
theorem Cut.split {a b : Nat} (k : Cut lt a s m e b d) (h1 : SortedIn lt a m d) (h2 : SortedIn lt m b d) (r : Rot s m e d R) : Split lt a (s + (e - m)) b R := fun x y hx hxq hy hyb => by
  have := k.sa; have := k.sm; have := k.me; have := k.eb
  by_cases g1 : x < s
  · rw [r.at1 g1]
    by_cases g2 : y < e
    · rw [r.at3 k.me hy g2 k.sm]; exact h1 _ _ hx (by omega) (by omega)
    · rw [r.at4 (by omega)]; exact k.lo _ _ hx g1 (by omega) hyb
  · rw [r.at2 (by omega) hxq]
    by_cases g2 : y < e
    · rw [r.at3 k.me hy g2 k.sm]; exact k.hi _ _ (by omega) (by omega) (by omega) (by omega)
    · rw [r.at4 (by omega)]; exact h2 _ _ (by omega) (by omega) hyb
theorem Rot.s1 {a : Nat} (r : Rot s m e d R) (h1 : SortedIn lt a m d) (hs : s ≤ m) : SortedIn lt a s R := fun i j hi hij hj => by
  rw [r.at1 hj, r.at1 (by omega)]; exact h1 _ _ hi hij (by omega)
theorem Rot.s2 {b : Nat} (r : Rot s m e d R) (h2 : SortedIn lt m b d) (he : e ≤ b) (hm : m ≤ e) : SortedIn lt s (s + (e - m)) R := fun i j hi hij hj => by
  rw [r.at2 (by omega) hj, r.at2 hi (by omega)]; exact h2 _ _ (by omega) (by omega) (by omega)
theorem Rot.s3 {a : Nat} (r : Rot s m e d R) (h1 : SortedIn lt a m d) (ha : a ≤ s) (hs : s ≤ m) (hm : m ≤ e) : SortedIn lt (s + (e - m)) e R := fun i j hi hij hj => by
  rw [r.at3 hm (by omega) hj hs, r.at3 hm hi (by omega) hs]; exact h1 _ _ (by omega) (by omega) (by omega)
theorem Rot.s4 {b : Nat} (r : Rot s m e d R) (h2 : SortedIn lt m b d) (hm : m ≤ e) : SortedIn lt e b R := fun i j hi hij hj => by
  rw [r.at4 (by omega), r.at4 (by omega)]; exact h2 _ _ (by omega) hij hj
/-- One step to the right: an element moves from a towards i. -/
theorem Rot.up {a i : Nat} (h : Rot a (a + 1) (i + 1) d c) (ha : a ≤ i) (hi : i + 1 < d.size) : Rot a (a + 1) (i + 2) d (swp c i (i + 1)) := by
  have g : ∀ k, (swp c i (i + 1))[k]! = if k = i + 1 then c[i]! else if k = i then c[i + 1]! else c[k]! := fun k => swp_get c (by rw [h.size]; omega) (by rw [h.size]; omega) k
  refine ⟨by rw [Go.Sort.swp_size, h.size], fun k hk => ?_, fun t ht => ?_, fun t ht => ?_⟩
  · rw [g, if_neg (by omega), if_neg (by omega), h.out k (by omega)]
  · rw [g, if_neg (by omega)]
    by_cases e : a + t = i
    · rw [if_pos e, h.out _ (by omega), show a + 1 + t = i + 1 by omega]
    · rw [if_neg e, h.lo t (by omega)]
  · obtain rfl : t = 0 := by omega
    rw [g, if_pos (by omega)]
    have := h.hi 0 (by omega)
    rwa [show a + (i + 1 - (a + 1)) + 0 = i by omega] at this
theorem Rot.up0 (a : Nat) (d : Array α) : Rot a (a + 1) (a + 1) d d := ⟨rfl, fun _ _ => rfl, fun t h => by omega, fun t h => by congr 1; omega⟩
/-- One step to the left: an element moves from m down to k. -/
theorem Rot.down {k m : Nat} (h : Rot (k + 1) m (m + 1) d c) (hk : k < m) (hm : m < d.size) : Rot k m (m + 1) d (swp c (k + 1) k) := by
  have g : ∀ x, (swp c (k + 1) k)[x]! = if x = k then c[k + 1]! else if x = k + 1 then c[k]! else c[x]! := fun x => swp_get c (by rw [h.size]; omega) (by rw [h.size]; omega) x
  refine ⟨by rw [Go.Sort.swp_size, h.size], fun x hx => ?_, fun t ht => ?_, fun t ht => ?_⟩
  · rw [g, if_neg (by omega), if_neg (by omega), h.out x (by omega)]
  · obtain rfl : t = 0 := by omega
    rw [g, if_pos (by omega)]
    have := h.lo 0 (by omega)
    rwa [show k + 1 + 0 = k + 1 by omega] at this
  · rw [g, if_neg (by omega)]
    cases t with
    | zero => rw [if_pos (by omega), h.out _ (by omega)]; congr 1
    | succ t =>
      rw [if_neg (by omega)]
      have := h.hi t (by omega)
      rw [show k + (m + 1 - m) + (t + 1) = k + 1 + (m + 1 - m) + t by omega, this, show k + 1 + t = k + (t + 1) by omega]
theorem Rot.down0 (m : Nat) (d : Array α) : Rot m m (m + 1) d d := ⟨rfl, fun _ _ => rfl, fun t h => by congr 1, fun t h => by omega⟩
end
end
end Go.Vx

/- Plain: terms and substitutions in order. -/
namespace Go.Vx
open Go.Proofs Classical
/-- A comparison in three ways that makes a total order. -/
structure Ord3 {α : Type} (c : α → α → Int) : Prop where
  zero : ∀ x y, c x y = 0 ↔ x = y
  anti : ∀ x y, c x y < 0 ↔ 0 < c y x
  trans : ∀ x y z, c x y < 0 → c y z < 0 → c x z < 0
def lexI (p q : Int) : Int := if p = 0 then q else p
theorem lexI_zero {p q : Int} : lexI p q = 0 ↔ p = 0 ∧ q = 0 := by unfold lexI; split <;> omega
theorem lexI_anti {p q p' q' : Int} (h1 : p < 0 ↔ 0 < p') (h2 : p' < 0 ↔ 0 < p) (h3 : p = 0 → (q < 0 ↔ 0 < q')) : lexI p q < 0 ↔ 0 < lexI p' q' := by
  unfold lexI
  split
  · rename_i h
    rw [if_pos (by omega)]; exact h3 h
  · rw [if_neg (by omega)]; exact h1
theorem lexI_trans {p1 q1 p2 q2 p3 q3 : Int} (t : p1 < 0 → p2 < 0 → p3 < 0) (e1 : p1 = 0 → p3 = p2) (e2 : p2 = 0 → p3 = p1) (r : p1 = 0 → p2 = 0 → q1 < 0 → q2 < 0 → q3 < 0) : lexI p1 q1 < 0 → lexI p2 q2 < 0 → lexI p3 q3 < 0 := by
  unfold lexI
  intro h1 h2
  by_cases k1 : p1 = 0
  · rw [if_pos k1] at h1
    have := e1 k1
    by_cases k2 : p2 = 0
    · rw [if_pos k2] at h2
      rw [if_pos (by omega)]; exact r k1 k2 h1 h2
    · rw [if_neg k2] at h2
      rw [if_neg (by omega)]; omega
  · rw [if_neg k1] at h1
    by_cases k2 : p2 = 0
    · have := e2 k2
      rw [if_neg (by omega)]; omega
    · rw [if_neg k2] at h2
      have := t h1 h2
      rw [if_neg (by omega)]; exact this
/-- The first fields, then the rest. -/
theorem Ord3.lex_trans {α : Type} {c : α → α → Int} (h : Ord3 c) {x y z : α} {q1 q2 q3 : Int} (r : x = y → y = z → q1 < 0 → q2 < 0 → q3 < 0) : lexI (c x y) q1 < 0 → lexI (c y z) q2 < 0 → lexI (c x z) q3 < 0 :=
  lexI_trans (h.trans x y z) (fun e => by rw [(h.zero _ _).1 e]) (fun e => by rw [(h.zero _ _).1 e]) fun e1 e2 => r ((h.zero _ _).1 e1) ((h.zero _ _).1 e2)
theorem Ord3.lex_anti {α : Type} {c : α → α → Int} (h : Ord3 c) {x y : α} {q q' : Int} (r : x = y → (q < 0 ↔ 0 < q')) : lexI (c x y) q < 0 ↔ 0 < lexI (c y x) q' :=
  lexI_anti (h.anti x y) (h.anti y x) fun e => r ((h.zero _ _).1 e)
def cInt (a b : Int) : Int := if a = b then 0 else sgn (decide (a < b))
theorem cInt_ord : Ord3 cInt where
  zero x y := by
    unfold cInt sgn
    by_cases h : x = y
    · simp [h]
    · by_cases g : x < y <;> simp [h, g]
  anti x y := by
    unfold cInt sgn
    by_cases h : x = y
    · simp [h]
    · rw [if_neg h, if_neg (Ne.symm h)]
      by_cases g : x < y
      · have g2 : ¬ y < x := by omega
        simp [g, g2]
      · have g2 : y < x := by omega
        simp [g, g2]
  trans x y z := by
    unfold cInt sgn
    by_cases h : x = y <;> by_cases h2 : y = z <;> by_cases h3 : x = z <;> by_cases g : x < y <;> by_cases g2 : y < z <;> by_cases g3 : x < z <;> simp [h, h2, h3, g, g2, g3] <;> omega
theorem bl_irrefl : ∀ l : List UInt8, Op.bytesLess l l = false
  | [] => rfl
  | a :: l => by rw [Op.bytesLess]; simp [bl_irrefl l]
theorem bl_trans : ∀ x y z : List UInt8, Op.bytesLess x y = true → Op.bytesLess y z = true → Op.bytesLess x z = true
  | x, y, [], h1, h2 => by simp [Op.bytesLess] at h2
  | x, [], c :: z, h1, h2 => by cases x <;> simp [Op.bytesLess] at h1
  | [], b :: y, c :: z, h1, h2 => rfl
  | a :: x, b :: y, c :: z, h1, h2 => by
    simp only [Op.bytesLess, Bool.or_eq_true, decide_eq_true_eq, Bool.and_eq_true, beq_iff_eq] at h1 h2 ⊢
    rcases h1 with h1 | ⟨rfl, h1⟩
    · rcases h2 with h2 | ⟨rfl, h2⟩
      · exact .inl (UInt8.lt_trans h1 h2)
      · exact .inl h1
    · rcases h2 with h2 | ⟨rfl, h2⟩
      · exact .inl h2
      · exact .inr ⟨rfl, bl_trans x y z h1 h2⟩
theorem bl_other {x y : List UInt8} (h : x ≠ y) : Op.bytesLess y x = !Op.bytesLess x y := by
  rw [← bytesLess_total x y]
  have : (x == y) = false := by simpa using h
  rw [this, Bool.or_false]
theorem bytes_ne {x y : ByteArray} (h : ¬ x = y) : x.data.toList ≠ y.data.toList := fun k => h (by
  cases x; cases y
  simp only [ByteArray.mk.injEq]
  exact Array.ext' k)
noncomputable def cName (a b : ByteArray) : Int := if a = b then 0 else sgn (Op.bytesLess a.data.toList b.data.toList)
theorem cName_ord : Ord3 cName where
  zero x y := by
    unfold cName
    by_cases h : x = y
    · simp [h]
    · rw [if_neg h]; exact ⟨fun k => absurd k (sgn_ne _), fun k => absurd k h⟩
  anti x y := by
    unfold cName
    by_cases h : x = y
    · simp [h]
    · rw [if_neg h, if_neg (Ne.symm h), bl_other (bytes_ne h)]
      cases Op.bytesLess x.data.toList y.data.toList <;> simp [sgn]
  trans x y z := by
    unfold cName
    intro h1 h2
    split at h1
    · omega
    split at h2
    · omega
    have k1 : Op.bytesLess x.data.toList y.data.toList = true := by
      cases e : Op.bytesLess x.data.toList y.data.toList with
      | true => rfl
      | false => rw [e] at h1; simp [sgn] at h1
    have k2 : Op.bytesLess y.data.toList z.data.toList = true := by
      cases e : Op.bytesLess y.data.toList z.data.toList with
      | true => rfl
      | false => rw [e] at h2; simp [sgn] at h2
    have k3 := bl_trans _ _ _ k1 k2
    have k4 : ¬ x = z := fun e => by
      rw [e, bl_irrefl] at k3; exact absurd k3 (by decide)
    rw [if_neg k4, k3]
    decide
theorem hd_lex (x y : Tm) (r : Int) : hdCmp x y r = lexI (cInt x.kind y.kind) (lexI (cInt x.num y.num) (lexI (cName x.name y.name) r)) := by
  unfold hdCmp lexI cInt cName
  by_cases h1 : x.kind = y.kind <;> by_cases h2 : x.num = y.num <;> by_cases h3 : x.name = y.name <;> simp [h1, h2, h3, sgn_ne]
theorem T.cmp_anti : ∀ x y : T, x.cmp y < 0 ↔ 0 < y.cmp x := by
  intro x
  induction x with
  | pair a b iha ihb =>
    intro y
    rw [T.cmp_eq, T.cmp_eq y, hd_lex, hd_lex]
    refine cInt_ord.lex_anti fun _ => cInt_ord.lex_anti fun _ => cName_ord.lex_anti fun _ => ?_
    cases y with
    | pair c d =>
      show lexI (a.cmp c) (b.cmp d) < 0 ↔ 0 < lexI (c.cmp a) (d.cmp b)
      refine lexI_anti (iha c) ?_ fun _ => ihb d
      have h1 := iha c; have h2 := T.cmp_zero a c; have h3 := T.cmp_zero c a
      by_cases e : a = c
      · have := h2.2 e; have := h3.2 e.symm; omega
      · have : a.cmp c ≠ 0 := fun k => e (h2.1 k)
        have : c.cmp a ≠ 0 := fun k => e (h3.1 k).symm
        omega
    | _ => exact Iff.rfl
  | _ =>
    intro y
    rw [T.cmp_eq, T.cmp_eq y, hd_lex, hd_lex]
    refine cInt_ord.lex_anti fun _ => cInt_ord.lex_anti fun _ => cName_ord.lex_anti fun _ => ?_
    cases y <;> exact Iff.rfl
theorem T.cmp_trans : ∀ x y z : T, x.cmp y < 0 → y.cmp z < 0 → x.cmp z < 0 := by
  intro x
  induction x with
  | pair a b iha ihb =>
    intro y z
    rw [T.cmp_eq, T.cmp_eq y, T.cmp_eq _ z, hd_lex, hd_lex, hd_lex]
    refine cInt_ord.lex_trans fun _ _ => cInt_ord.lex_trans fun _ _ => cName_ord.lex_trans fun _ _ => ?_
    cases y with
    | pair c d =>
      cases z with
      | pair e f =>
        show lexI (a.cmp c) (b.cmp d) < 0 → lexI (c.cmp e) (d.cmp f) < 0 → lexI (a.cmp e) (b.cmp f) < 0
        exact lexI_trans (iha c e) (fun k => by rw [(T.cmp_zero _ _).1 k]) (fun k => by rw [(T.cmp_zero _ _).1 k]) fun _ _ => ihb d f
      | _ => exact fun _ h => absurd h (Int.lt_irrefl 0)
    | _ => exact fun h => absurd h (Int.lt_irrefl 0)
  | _ =>
    intro y z
    rw [T.cmp_eq, T.cmp_eq y, T.cmp_eq _ z, hd_lex, hd_lex, hd_lex]
    refine cInt_ord.lex_trans fun _ _ => cInt_ord.lex_trans fun _ _ => cName_ord.lex_trans fun _ _ => ?_
    exact fun h => absurd h (Int.lt_irrefl 0)
theorem T.cmp_ord : Ord3 T.cmp := ⟨T.cmp_zero, T.cmp_anti, T.cmp_trans⟩
/-- Lists compared, element by element; the shorter one first. -/
def cmpList {α : Type} (c : α → α → Int) : List α → List α → Int
  | [], [] => 0
  | [], _ :: _ => -1
  | _ :: _, [] => 1
  | a :: l, b :: m => lexI (c a b) (cmpList c l m)
theorem cmpList_ord {α : Type} {c : α → α → Int} (h : Ord3 c) : Ord3 (cmpList c) where
  zero := by
    intro x
    induction x with
    | nil => intro y; cases y <;> simp [cmpList]
    | cons a l ih =>
      intro y
      cases y with
      | nil => simp [cmpList]
      | cons b m => rw [cmpList, lexI_zero, h.zero, ih, List.cons.injEq]
  anti := by
    intro x
    induction x with
    | nil => intro y; cases y <;> simp [cmpList]
    | cons a l ih =>
      intro y
      cases y with
      | nil => simp [cmpList]
      | cons b m => rw [cmpList, cmpList]; exact h.lex_anti fun _ => ih m
  trans := by
    intro x
    induction x with
    | nil => intro y z; cases y <;> cases z <;> simp [cmpList]
    | cons a l ih =>
      intro y z
      cases y with
      | nil => simp [cmpList]
      | cons b m =>
        cases z with
        | nil => simp [cmpList]
        | cons e n => rw [cmpList, cmpList, cmpList]; exact h.lex_trans fun _ _ => ih m n
noncomputable def B.cmp (x y : B) : Int := lexI (cInt x.var y.var) (x.to.cmp y.to)
theorem B.cmp_ord : Ord3 B.cmp where
  zero x y := by
    rw [B.cmp, lexI_zero, cInt_ord.zero, T.cmp_zero]
    cases x; cases y; simp
  anti x y := cInt_ord.lex_anti fun _ => T.cmp_anti _ _
  trans x y z := cInt_ord.lex_trans fun _ _ => T.cmp_trans _ _ _
/-- A total order as sorting wants it. -/
theorem Ord3.swo {α : Type} {c : α → α → Int} (h : Ord3 c) : Go.Sort.SWO fun x y => decide (c x y < 0) where
  irrefl x := by have := (h.zero x x).2 rfl; simp; omega
  trans x y z h1 h2 := by
    simp only [decide_eq_true_eq] at *
    exact h.trans _ _ _ h1 h2
  ntrans x y z h1 h2 := by
    simp only [decide_eq_false_iff_not] at *
    intro h3
    by_cases e : x = y
    · subst e; exact h2 h3
    · by_cases e2 : y = z
      · subst e2; exact h1 h3
      · have a1 := h.anti x y; have a2 := h.anti y x; have z1 := h.zero x y; have z2 := h.zero y x
        have b1 := h.anti y z; have b2 := h.anti z y; have w1 := h.zero y z; have w2 := h.zero z y
        have p1 : c x y ≠ 0 := fun k => e (z1.1 k)
        have p2 : c y z ≠ 0 := fun k => e2 (w1.1 k)
        have q1 : c y x < 0 := a2.2 (by omega)
        have q2 : c z y < 0 := b2.2 (by omega)
        have q3 := h.trans _ _ _ q2 q1
        have a3 := h.anti x z
        omega
end Go.Vx

/- Contracts: substitutions compared. -/
namespace Go.Vx
open Go.Proofs Classical
noncomputable abbrev cmpB : List B → List B → Int := cmpList B.cmp
theorem cmpB_ord : Ord3 cmpB := cmpList_ord B.cmp_ord
theorem cmpList_end {α : Type} {c : α → α → Int} {l m : List α} {i : Nat} (h : ¬ (i < l.length ∧ i < m.length)) (h2 : i ≤ l.length) (h3 : i ≤ m.length) (e : cmpList c (l.drop i) (m.drop i) = cmpList c l m) : cmpList c l m = cInt l.length m.length := by
  rw [← e]
  rcases Nat.lt_or_ge i l.length with k | k
  · obtain rfl : i = m.length := by omega
    rw [List.drop_length]
    obtain ⟨x, hx⟩ := at_some k
    rw [drop_at hx, cmpList, cInt, if_neg (by omega), decide_eq_false (by omega)]
    rfl
  · obtain rfl : i = l.length := by omega
    rw [List.drop_length]
    rcases Nat.eq_or_lt_of_le h3 with k2 | k2
    · rw [k2, List.drop_length, cmpList, cInt, if_pos rfl]
    · obtain ⟨x, hx⟩ := at_some k2
      rw [drop_at hx, cmpList, cInt, if_neg (by omega), decide_eq_true (by omega)]
      rfl
theorem lexI_ne {p q : Int} (h : p ≠ 0) : lexI p q = p := by rw [lexI, if_neg h]
theorem lexI_eq {p q : Int} (h : p = 0) : lexI p q = q := by rw [lexI, if_pos h]
section
variable {μ : Mem}
theorem orderInts_any (a b : Int) : Gives Try.prog 134 [.int .i64 a, .int .i64 b] μ (.int .i64 (cInt a b)) := by
  by_cases h : a = b
  · rw [cInt, if_pos h]
    refine Spec.mk Try.func134 (by kernel_rfl) ?_
    refine ifd (fun h1 => by omega) (fun h1 => ?_)
    exact ifd (fun h2 => by omega) (fun h2 => ret_gives rfl rfl)
  · rw [cInt, if_neg h]; exact orderInts_spec a b h
theorem orderBindings_spec {bs bt : List B} {base base2 : Option Addr} {cap cap2 : Nat} (hsl : Sl μ 5 base bs.length ((bs.map B.bd).map Bd.d)) (hsl2 : Sl μ 5 base2 bt.length ((bt.map B.bd).map Bd.d)) :
    Gives Try.prog 64 [.slice base bs.length cap, .slice base2 bt.length cap2] μ (.int .i64 (cmpB bs bt)) := by
  refine Spec.mk Try.func64 (by kernel_rfl) ?_
  have hm1 := maxLen_le hsl.max
  have hm2 := maxLen_le hsl2.max
  refine loop_intro (fun i : Nat => i ≤ bs.length ∧ i ≤ bt.length ∧ cmpB (bs.drop i) (bt.drop i) = cmpB bs bt)
    (fun i => ⟨[(0, .val (.slice base bs.length cap)), (1, .val (.slice base2 bt.length cap2)), (5, .val (.int .i64 i))], [], 0, μ, Mem.nil⟩) (fun i => bs.length - i)
    0 ⟨Nat.zero_le _, Nat.zero_le _, rfl⟩ (fun _ => ⟨rfl, rfl⟩) ⟨⟨rfl, rfl, rfl, trivial⟩, trivial, rfl, rfl⟩ ?_
  rintro i ⟨hi, hj, hJ⟩
  have fin : ¬ (i < bs.length ∧ i < bt.length) → cmpB bs bt = cInt bs.length bt.length := fun h => cmpList_end h hi hj hJ
  refine ifd (fun h1 => ?_) (fun h1 => ?_)
  · refine ifd (fun h2 => ?_) (fun h2 => ?_)
    · obtain ⟨x, hx⟩ := at_some (l := bs) (i := i) (by omega)
      obtain ⟨y, hy⟩ := at_some (l := bt) (i := i) (by omega)
      obtain ⟨ad, p, hel, hto⟩ := B.elem hsl hx
      obtain ⟨ad2, p2, hel2, hto2⟩ := B.elem hsl2 hy
      rw [drop_at hx, drop_at hy, cmpB, cmpList, B.cmp] at hJ
      refine elem_intro hel (elem_intro hel2 ?_)
      refine call_gives (orderInts_any _ _) ?_
      refine ifnd (fun h3 => ?_) (fun h3 => ?_)
      · have h4 : cInt x.var y.var ≠ 0 := h3
        rw [lexI_ne (by rw [lexI_ne h4]; exact h4), lexI_ne h4] at hJ
        exact ret_gives (congrArg (Value.int .i64) hJ) rfl
      · have h4 : cInt x.var y.var = 0 := h3
        rw [lexI_eq h4] at hJ
        refine elem_intro hel (elem_intro hel2 ?_)
        refine call_gives (orderTerms_spec _ _ hto hto2) ?_
        refine ifnd (fun h5 => ?_) (fun h5 => ?_)
        · rw [lexI_ne h5] at hJ
          exact ret_gives (congrArg (Value.int .i64) hJ) rfl
        · rw [lexI_eq h5] at hJ
          exact num64 (by omega) (by omega) ⟨i + 1, ⟨by omega, by omega, hJ⟩, by omega, ⟨⟨rfl, rfl, rfl, trivial⟩, trivial, rfl, rfl⟩⟩
    · refine call_gives (orderInts_any _ _) ?_
      exact ret_gives (by rw [fin (by omega)]) rfl
  · refine call_gives (orderInts_any _ _) ?_
    exact ret_gives (by rw [fin (by omega)]) rfl
theorem l09Cmp_spec {bs bt : List B} {base base2 : Option Addr} {cap cap2 : Nat} (hsl : Sl μ 5 base bs.length ((bs.map B.bd).map Bd.d)) (hsl2 : Sl μ 5 base2 bt.length ((bt.map B.bd).map Bd.d)) :
    Gives Try.prog 125 [.slice base bs.length cap, .slice base2 bt.length cap2] μ (.int .i64 (cmpB bs bt)) := by
  refine Spec.mk Try.func125 (by kernel_rfl) ?_
  have hm1 := maxLen_le hsl.max
  have hm2 := maxLen_le hsl2.max
  refine loop_intro (fun i : Nat => i ≤ bs.length ∧ i ≤ bt.length ∧ cmpB (bs.drop i) (bt.drop i) = cmpB bs bt)
    (fun i => ⟨[(0, .val (.slice base bs.length cap)), (1, .val (.slice base2 bt.length cap2)), (5, .val (.int .i64 i))], [], 0, μ, Mem.nil⟩) (fun i => bs.length - i)
    0 ⟨Nat.zero_le _, Nat.zero_le _, rfl⟩ (fun _ => ⟨rfl, rfl⟩) ⟨⟨rfl, rfl, rfl, trivial⟩, trivial, rfl, rfl⟩ ?_
  rintro i ⟨hi, hj, hJ⟩
  have fin : ¬ (i < bs.length ∧ i < bt.length) → cmpB bs bt = cInt bs.length bt.length := fun h => cmpList_end h hi hj hJ
  refine ifd (fun h1 => ?_) (fun h1 => ?_)
  · refine ifd (fun h2 => ?_) (fun h2 => ?_)
    · obtain ⟨x, hx⟩ := at_some (l := bs) (i := i) (by omega)
      obtain ⟨y, hy⟩ := at_some (l := bt) (i := i) (by omega)
      obtain ⟨ad, p, hel, hto⟩ := B.elem hsl hx
      obtain ⟨ad2, p2, hel2, hto2⟩ := B.elem hsl2 hy
      rw [drop_at hx, drop_at hy, cmpB, cmpList, B.cmp] at hJ
      refine elem_intro hel (elem_intro hel2 ?_)
      refine ifnd (fun h3 => ?_) (fun h3 => ?_)
      · have h3' : ¬ x.var = y.var := h3
        have h4 : cInt x.var y.var = sgn (decide (x.var < y.var)) := by rw [cInt, if_neg h3']
        rw [lexI_ne (by rw [h4, lexI_ne (sgn_ne _)]; exact sgn_ne _), h4, lexI_ne (sgn_ne _)] at hJ
        refine elem_intro hel (elem_intro hel2 ?_)
        refine call_gives (l02Sign_spec _) ?_
        exact ret_gives (congrArg (Value.int .i64) hJ) rfl
      · have h3' : x.var = y.var := h3
        have h4 : cInt x.var y.var = 0 := by rw [cInt, if_pos h3']
        rw [lexI_eq h4] at hJ
        refine elem_intro hel (elem_intro hel2 ?_)
        refine call_gives (l02Cmp_spec _ _ hto hto2) ?_
        refine ifnd (fun h5 => ?_) (fun h5 => ?_)
        · rw [lexI_ne h5] at hJ
          exact ret_gives (congrArg (Value.int .i64) hJ) rfl
        · rw [lexI_eq h5] at hJ
          exact num64 (by omega) (by omega) ⟨i + 1, ⟨by omega, by omega, hJ⟩, by omega, ⟨⟨rfl, rfl, rfl, trivial⟩, trivial, rfl, rfl⟩⟩
    · have hf := fin (by omega)
      refine ifnd (fun h3 => ?_) (fun h3 => ?_)
      · refine call_gives (l02Sign_spec _) ?_
        exact ret_gives (by rw [hf, cInt, if_neg h3]) rfl
      · exact ret_gives (by rw [hf, cInt, if_pos h3]) rfl
  · have hf := fin (by omega)
    refine ifnd (fun h3 => ?_) (fun h3 => ?_)
    · refine call_gives (l02Sign_spec _) ?_
      exact ret_gives (by rw [hf, cInt, if_neg h3]) rfl
    · exact ret_gives (by rw [hf, cInt, if_pos h3]) rfl
end
end Go.Vx

/- Marks counted; the term of an answer. -/
namespace Go.Vx
open Go.Proofs Classical
theorem tm_cnt : ∀ t : Tm, t.d.cnt = 3 * t.cnt :=
  Tm.ind fun k n s l ih => by
    have : D.cnts (l.map Tm.d) = 3 * Tm.cnts l := by
      induction l with
      | nil => rfl
      | cons t l ih2 =>
        have h1 := ih t (by simp)
        have h2 := ih2 fun t ht => ih t (by simp [ht])
        simp only [List.map_cons, D.cnts, Tm.cnts, h1, h2]; omega
    rw [Tm.cnt_eq, Tm.cnt]
    show 3 + D.cnts (l.map Tm.d) = _
    omega
theorem tm_cnt_sz : ∀ t : Tm, t.d.cnt ≤ 3 + 3 * t.d.sz :=
  Tm.ind fun k n s l ih => by
    have : D.cnts (l.map Tm.d) ≤ 3 * l.length + 3 * D.szs (l.map Tm.d) := by
      induction l with
      | nil => simp [D.cnts, D.szs]
      | cons t l ih2 =>
        have h1 := ih t (by simp)
        have h2 := ih2 fun t ht => ih t (by simp [ht])
        simp only [List.map_cons, D.cnts, D.szs, List.length_cons]; omega
    rw [Tm.cnt_eq, Tm.d_mk]
    show 3 + D.cnts (l.map Tm.d) ≤ _
    simp only [D.sz, D.szs, List.length_map]
    omega
theorem bds_cnt : ∀ l : List Bd, D.cnts (l.map Bd.d) ≤ 4 * l.length + 3 * D.szs (l.map Bd.d)
  | [] => by simp [D.cnts, D.szs]
  | b :: l => by
    have h1 := bds_cnt l
    have h2 := tm_cnt_sz b.to
    rw [Tm.cnt_eq] at h2
    have h3 := Bd.cnt_eq b
    have h4 : b.d.sz = b.to.d.sz := by simp [Bd.d, D.sz, D.szs]
    simp only [List.map_cons, D.cnts, D.szs, List.length_cons]; omega
theorem tm_mt (t : Tm) (k : Int) : (t.d.mt k).2 = k + D.cnts (t.args.map Tm.d) := by rw [Tm.mt_eq]; exact D.mks_cnt _ _
/-- The term of an answer. -/
def resTm : Option T → Tm
  | some y => y.tm
  | none => .mk 0 0 ⟨#[]⟩ []
theorem zero_own : OwnV (resTm none).d Mem.nil (.agg #[.int .i64 0, .int .i64 0, .string ⟨#[]⟩, .slice none 0 0]) := by
  rw [resTm, Tm.d_mk]
  exact ⟨_, rfl, OwnS.int (OwnS.int (OwnS.str (OwnS.last (Own.nilSl 4))))⟩
theorem optV_rep {μ : Mem} {o : Option T} {v : Value} (h : optV (fun y tv => RepV μ y.tm.d tv) o v) : ∃ tv, v = .tuple #[tv, .bool o.isSome] ∧ RepV μ (resTm o).d tv := by
  cases o with
  | some y => obtain ⟨tv, rfl, h⟩ := h; exact ⟨tv, rfl, h⟩
  | none => exact ⟨_, h, zero_own.rep (fun _ _ h => nomatch h)⟩
theorem optV_fresh {μ μ' : Mem} {o : Option T} {v : Value} (h : optV (fun y tv => Fresh μ μ' y.tm.d tv) o v) : ∃ tv, v = .tuple #[tv, .bool o.isSome] ∧ Fresh μ μ' (resTm o).d tv := by
  cases o with
  | some y => obtain ⟨tv, rfl, h⟩ := h; exact ⟨tv, rfl, h⟩
  | none => exact ⟨_, h, Mem.nil, zero_own, (fun _ _ h => nomatch h), fun _ h => absurd rfl h⟩
end Go.Vx

/- Contracts: substitutions applied; which one is more general; unifiers. -/
namespace Go.Vx
open Go.Proofs Classical
/-! ### Plain -/
noncomputable def appl (l : List Bd) (t : Tm) : Option T := if substOk l ∧ t.Ok then fit (t.toT.subst (sub (l.map Bd.b))) else none
theorem fit_some {x y : T} : fit x = some y ↔ x.size ≤ 5000 ∧ x = y := by
  unfold fit
  split
  · rename_i h; exact ⟨fun k => ⟨h, Option.some.inj k⟩, fun k => by rw [k.2]⟩
  · rename_i h; exact ⟨fun k => (nomatch k), fun k => absurd k.1 h⟩
theorem fit_isSome (x : T) : (fit x).isSome = decide (x.size ≤ 5000) := by
  unfold fit
  split <;> simp_all
section
variable {μ : Mem}
theorem spec_ApplySubst_spec {t : Tm} {l : List Bd} {v : Value} {base : Option Addr} {cap : Nat} (hsl : Sl μ 5 base l.length (l.map Bd.d)) (hwl : D.wds (l.map Bd.d)) (hv : RepV μ t.d v) (hw : t.d.wd) :
    Spec Try.prog 89 [.slice base l.length cap, v] μ fun v μ' => optV (fun y tv => RepV μ' y.tm.d tv) (appl l t) v := by
  obtain ⟨p, rfl⟩ := Tm.invV hv
  refine Spec.mk Try.func89 (by kernel_rfl) ?_
  intro r1 r2
  refine call_gives (spec_SubstOk_spec hsl hwl) ?_
  refine ifnd (fun h => ret_plain (by rw [appl, if_neg fun k => h k.1]; rfl)) (fun h1 => ?_)
  refine call_gives (spec_TermOk_spec t hv hw) ?_
  refine ifnd (fun h => ret_plain (by rw [appl, if_neg fun k => h k.2]; rfl)) (fun h2 => ?_)
  obtain ⟨x, _, rfl⟩ := h2.lift
  obtain ⟨bs, rfl, hbs⟩ := h1.subst
  rw [List.length_map] at hsl ⊢
  have e3 : appl (bs.map B.bd) x.tm = fit (x.subst (sub bs)) := by
    rw [appl, if_pos ⟨h1, h2⟩, T.toT_tm, B.map_b]
  rw [e3]
  refine call_plain (l04Apply_spec x hsl hv) fun v1 μ1 hle1 hR => ?_
  obtain ⟨tv, rfl, hR⟩ := hR
  obtain ⟨q, rfl⟩ := Tm.invV hR
  intro r3
  refine ifnd (fun h => ret_plain (by rw [fit, if_neg h]; rfl)) (fun h3 => ?_)
  refine call_plain (l02Copy_spec _ hR) fun v2 μ2 hle2 hR2 => ?_
  obtain ⟨q2, rfl⟩ := Tm.invV hR2
  refine ret_plain ?_
  rw [fit, if_pos h3]
  exact ⟨_, rfl, hR2⟩
end
end Go.Vx

/- Contracts: which substitution is more general. -/
namespace Go.Vx
open Go.Proofs Classical
def mgen (bs bt : List B) : Prop := ∀ b ∈ bs, ∃ x, fit ((T.var b.var).subst (sub bt)) = some x ∧ fit (b.to.subst (sub bt)) = some x
def moreGen (l m : List Bd) : Prop := substOk l ∧ substOk m ∧ mgen (l.map Bd.b) (m.map Bd.b)
theorem moreGen_iff (bs bt : List B) : moreGen (bs.map B.bd) (bt.map B.bd) ↔ Subst bs ∧ Subst bt ∧ mgen bs bt := by
  unfold moreGen
  rw [substOk_iff, substOk_iff, B.map_b, B.map_b]
section
variable {μ : Mem}
/-! ### One that is more general -/
theorem moreGeneral_spec {bs bt : List B} {base base2 : Option Addr} {cap cap2 : Nat} (hsl : Sl μ 5 base bs.length ((bs.map B.bd).map Bd.d)) (hsl2 : Sl μ 5 base2 bt.length ((bt.map B.bd).map Bd.d)) (hn : bs.length ≤ 1000000000) (ht : Vals bt) :
    Gives Try.prog 65 [.slice base bs.length cap, .slice base2 bt.length cap2] μ (.bool (decide (mgen bs bt))) := by
  have htl := ht.len
  refine Spec.forget (Spec.mk Try.func65 (by kernel_rfl) ?_)
  have good : mgen bs bt → Value.bool true = .bool (decide (mgen bs bt)) := isT
  refine loop_intro (fun p : Nat × Mem => p.1 ≤ bs.length ∧ μ.Le p.2 ∧ ∀ (j : Nat) b, j < p.1 → bs[j]? = some b → ∃ x, fit ((T.var b.var).subst (sub bt)) = some x ∧ fit (b.to.subst (sub bt)) = some x)
    (fun (i, μ') => ⟨[(1, .val (.slice base2 bt.length cap2)), (11, .val (.slice base bs.length cap)), (12, .val (.int .i64 bs.length)), (13, .val (.int .i64 i))], [], 0, μ', Mem.nil⟩) (fun p => bs.length - p.1)
    (0, μ) ⟨by simp, Mem.Le.refl μ, fun j b hj => by simp at hj⟩ (fun (_, _) => ⟨rfl, rfl⟩) ⟨⟨rfl, rfl, rfl, rfl, trivial⟩, trivial, rfl, rfl⟩ ?_
  rintro ⟨i, μ'⟩ ⟨hi, hle, hall⟩
  dsimp only at hi hle hall
  refine ifd (fun h => ?_) (fun h => ?_)
  rotate_left
  · obtain rfl : i = bs.length := by omega
    exact ret_plain (good fun b hb => by
      obtain ⟨j, hj⟩ := List.mem_iff_getElem?.1 hb
      exact hall j b (List.getElem?_eq_some_iff.1 hj).1 hj)
  obtain ⟨b, hb⟩ := at_some (l := bs) (i := i) (by omega)
  obtain ⟨ad, p, hel, hto⟩ := B.elem (hsl.mono hle) hb
  have hsl2' := hsl2.mono hle
  refine elem_intro hel ?_
  intro r
  have bad : (¬ ∃ x, fit ((T.var b.var).subst (sub bt)) = some x ∧ fit (b.to.subst (sub bt)) = some x) → Value.bool false = .bool (decide (mgen bs bt)) := fun k => isF fun hm => k (hm b (mem_at hb))
  refine call_gives (variable_spec _) ?_
  refine call_plain (put_spec (T.var b.var) ht.srt (by omega) ht.tok hsl2' (varV_rep _)) fun v1 μ1 hle1 hR1 => ?_
  obtain ⟨tv1, rfl, hf1⟩ := optV_fresh hR1
  obtain ⟨p1, rfl⟩ := Tm.invV hf1.rep
  intro r7
  refine call_plain (put_spec b.to ht.srt (by omega) ht.tok (hsl2'.mono hle1) (hto.mono hle1)) fun v2 μ2 hle2 hR2 => ?_
  obtain ⟨tv2, rfl, hf2⟩ := optV_fresh hR2
  obtain ⟨p2, rfl⟩ := Tm.invV hf2.rep
  intro r9
  cases e1 : fit ((T.var b.var).subst (sub bt)) with
  | none => exact if_intro (fun _ => ret_plain (bad fun ⟨x, k, _⟩ => by rw [e1] at k; cases k)) (fun h => nomatch h)
  | some x1 =>
    refine if_intro (fun h => nomatch h) (fun _ => ?_)
    cases e2 : fit (b.to.subst (sub bt)) with
    | none => exact if_intro (fun _ => ret_plain (bad fun ⟨x, _, k⟩ => by rw [e2] at k; cases k)) (fun h => nomatch h)
    | some x2 =>
      refine if_intro (fun h => nomatch h) (fun _ => ?_)
      rw [e1] at hf1
      rw [e2] at hf2
      refine call_gives (equalTerms_spec x1 x2 (hf1.rep.mono hle2) hf2.rep) ?_
      refine ifnd (fun h => ret_plain (bad fun ⟨x, k1, k2⟩ => by rw [e1] at k1; rw [e2] at k2; cases k1; cases k2; exact h rfl)) (fun h => ?_)
      subst h
      refine num64 (by omega) (by omega) ⟨(i + 1, μ2), ⟨by dsimp only; omega, (hle.trans hle1).trans hle2, fun j c hj hc => ?_⟩, by dsimp only; omega, ⟨⟨rfl, rfl, rfl, rfl, trivial⟩, trivial, rfl, rfl⟩⟩
      dsimp only at hj
      rcases Nat.lt_or_ge j i with h6 | h6
      · exact hall j c h6 hc
      · obtain rfl : j = i := by omega
        rw [hb] at hc; cases hc; exact ⟨_, e1, e2⟩
theorem spec_MoreGeneral_spec {l m : List Bd} {base base2 : Option Addr} {cap cap2 : Nat} (hsl : Sl μ 5 base l.length (l.map Bd.d)) (hw : D.wds (l.map Bd.d)) (hsl2 : Sl μ 5 base2 m.length (m.map Bd.d)) (hw2 : D.wds (m.map Bd.d)) :
    Gives Try.prog 126 [.slice base l.length cap, .slice base2 m.length cap2] μ (.bool (decide (moreGen l m))) := by
  refine Spec.forget (Spec.mk Try.func126 (by kernel_rfl) ?_)
  refine call_gives (spec_SubstOk_spec hsl hw) ?_
  refine ifnd (fun h => ret_plain (isF fun k => h k.1)) (fun h1 => ?_)
  refine call_gives (spec_SubstOk_spec hsl2 hw2) ?_
  refine ifnd (fun h => ret_plain (isF fun k => h k.2.1)) (fun h2 => ?_)
  obtain ⟨bs, rfl, hbs⟩ := h1.subst
  obtain ⟨bt, rfl, hbt⟩ := h2.subst
  rw [List.length_map] at hsl ⊢
  rw [List.length_map] at hsl2 ⊢
  have hn := hbs.vals.len
  have good : mgen bs bt → Value.bool true = .bool (decide (moreGen (bs.map B.bd) (bt.map B.bd))) := fun k => isT ((moreGen_iff bs bt).2 ⟨hbs, hbt, k⟩)
  refine loop_intro (fun p : Nat × Mem => p.1 ≤ bs.length ∧ μ.Le p.2 ∧ ∀ (j : Nat) b, j < p.1 → bs[j]? = some b → ∃ x, fit ((T.var b.var).subst (sub bt)) = some x ∧ fit (b.to.subst (sub bt)) = some x)
    (fun (i, μ') => ⟨[(1, .val (.slice base2 bt.length cap2)), (19, .val (.slice base bs.length cap)), (20, .val (.int .i64 bs.length)), (21, .val (.int .i64 i))], [], 0, μ', Mem.nil⟩) (fun p => bs.length - p.1)
    (0, μ) ⟨by simp, Mem.Le.refl μ, fun j b hj => by simp at hj⟩ (fun (_, _) => ⟨rfl, rfl⟩) ⟨⟨rfl, rfl, rfl, rfl, trivial⟩, trivial, rfl, rfl⟩ ?_
  rintro ⟨i, μ'⟩ ⟨hi, hle, hall⟩
  dsimp only at hi hle hall
  refine ifd (fun h => ?_) (fun h => ?_)
  rotate_left
  · obtain rfl : i = bs.length := by omega
    exact ret_plain (good fun b hb => by
      obtain ⟨j, hj⟩ := List.mem_iff_getElem?.1 hb
      exact hall j b (List.getElem?_eq_some_iff.1 hj).1 hj)
  obtain ⟨b, hb⟩ := at_some (l := bs) (i := i) (by omega)
  obtain ⟨ad, p, hel, hto⟩ := B.elem (hsl.mono hle) hb
  have hsl2' := hsl2.mono hle
  refine elem_intro hel ?_
  intro r
  have bad : (¬ ∃ x, fit ((T.var b.var).subst (sub bt)) = some x ∧ fit (b.to.subst (sub bt)) = some x) → Value.bool false = .bool (decide (moreGen (bs.map B.bd) (bt.map B.bd))) := fun k => isF fun hm => k (((moreGen_iff bs bt).1 hm).2.2 b (mem_at hb))
  refine call_gives (l02Var_spec _) ?_
  refine call_plain (l04Apply_spec (T.var b.var) hsl2' (varV_rep _)) fun v1 μ1 hle1 hR1 => ?_
  obtain ⟨tv1, rfl, hf1⟩ := hR1
  obtain ⟨p1, rfl⟩ := Tm.invV hf1
  intro r7
  refine call_plain (l04Apply_spec b.to (hsl2'.mono hle1) (hto.mono hle1)) fun v2 μ2 hle2 hR2 => ?_
  obtain ⟨tv2, rfl, hf2⟩ := hR2
  obtain ⟨p2, rfl⟩ := Tm.invV hf2
  intro r9
  refine ifnd (fun h => ret_plain (bad fun ⟨x, k, _⟩ => h (fit_some.1 k).1)) (fun h3 => ?_)
  refine ifnd (fun h => ret_plain (bad fun ⟨x, _, k⟩ => h (fit_some.1 k).1)) (fun h4 => ?_)
  refine call_gives (l02Same_spec _ _ (hf1.mono hle2) hf2) ?_
  refine ifnd (fun h => ret_plain (bad fun ⟨x, k1, k2⟩ => h ((fit_some.1 k1).2.trans (fit_some.1 k2).2.symm))) (fun h9 => ?_)
  refine num64 (by omega) (by omega) ⟨(i + 1, μ2), ⟨by dsimp only; omega, (hle.trans hle1).trans hle2, fun j c hj hc => ?_⟩, by dsimp only; omega, ⟨⟨rfl, rfl, rfl, rfl, trivial⟩, trivial, rfl, rfl⟩⟩
  dsimp only at hj
  rcases Nat.lt_or_ge j i with h6 | h6
  · exact hall j c h6 hc
  · obtain rfl : j = i := by omega
    rw [hb] at hc; cases hc; exact ⟨_, fit_some.2 ⟨h3, h9⟩, fit_some.2 ⟨h4, rfl⟩⟩
end
end Go.Vx

/- Owned rows, maps of numbers, results that grow. -/
namespace Go.Vx
open Go.Proofs Classical
section
variable {P : Program} {f : FuncId} {args : List Value} {μ h H : Mem}
theorem Mem.set_at (m : Mem) (r : Nat) (o : Obj) : (m.set r o) r = some o := by rw [Mem.set_get, if_pos rfl]
theorem Mem.set_ne {m : Mem} {b r : Nat} {o : Obj} (h : b ≠ r) : (m.set r o) b = m b := by rw [Mem.set_get, if_neg h]
theorem ne_of_obj {a b : Nat} {x y : Obj} (h1 : h a = some x) (h2 : h b = some y) (hne : x ≠ y) : a ≠ b := fun e => by
  subst e; rw [h1] at h2; cases h2; exact hne rfl
theorem ne_of_none {a b : Nat} {x : Obj} (h1 : h a = some x) (h2 : h b = none) : a ≠ b := fun e => by
  subst e; rw [h1] at h2; cases h2
theorem Apart.set {r : Nat} {o : Obj} (k : Apart μ h) (hr : μ r = none) : Apart μ (h.set r o) := fun b hb => by
  by_cases e : b = r
  · subst e; exact absurd hr hb
  · rw [Mem.set_ne e]; exact k b hb
/-! ### Rows -/
theorem RowO.set_ne {r cap b : Nat} {ty : TypeId} {es : Nat} {xs : List Value} {o : Obj} (k : RowO h r cap ty es xs) (hb : r ≠ b) : RowO (h.set b o) r cap ty es xs := by
  obtain ⟨cs, h1, h2⟩ := k
  exact ⟨cs, by rw [Mem.set_ne hb]; exact h1, h2⟩
theorem RowO.rowAt {r cap : Nat} {ty : TypeId} {es : Nat} {xs : List Value} (k : RowO h r cap ty es xs) (hl : h.Le μ) : RowAt μ (some r) cap es xs := by
  obtain ⟨cs, h1, h2, h3, h4, h5, h6⟩ := k
  exact ⟨h2, h4, cs.toArray, ty, hl _ _ h1, by simpa using h5, by simpa using h6⟩
theorem RowO.len {r cap : Nat} {ty : TypeId} {es : Nat} {xs : List Value} (k : RowO h r cap ty es xs) : xs.length ≤ maxLen := by
  obtain ⟨cs, h1, h2, h3, _⟩ := k
  exact Nat.le_trans h2 h3
theorem RowO.rep {r cap : Nat} {ty : TypeId} {es : Nat} {xs : List Value} {ds : List D} (k : RowO h r cap ty es xs) (hl : h.Le μ) (hr : Rows μ es ds xs) : RepV μ (.sl es ds) (.slice (some ⟨r, 0, none⟩) xs.length cap) :=
  Rows.sl (k.rowAt hl) hr k.len
theorem RowO.mk_nil (h : Mem) (r : Nat) (ty : TypeId) (es : Nat) : RowO (h.set r (.cells #[] ty (0, 0))) r 0 ty es [] :=
  ⟨[], Mem.set_at _ _ _, Nat.le_refl _, Nat.zero_le _, by simp, by simp, by simp⟩
theorem RowO.obj {r cap : Nat} {ty : TypeId} {es : Nat} {xs : List Value} (k : RowO h r cap ty es xs) : ∃ cs : List Value, h r = some (.cells cs.toArray ty (0, 0)) := by
  obtain ⟨cs, h1, _⟩ := k
  exact ⟨cs, h1⟩
theorem RowO.ints {r cap : Nat} {ty : TypeId} {l : List Int} (k : RowO h r cap ty 1 (ints l)) (hl : h.Le μ) : Sl μ 1 (some ⟨r, 0, none⟩) l.length (l.map D.i) := by
  obtain ⟨b, c, e, hs⟩ := Rep.sl (k.rep hl (Ints.rows l))
  obtain ⟨rfl, _, _⟩ := Value.slice.inj e
  rw [List.length_map] at hs
  exact hs
/-! ### Maps of numbers -/
def IntKey (v : Value) : Prop := ∃ n, v = .int .i64 n
theorem MapOk.weaken {ok ok' : Value → Prop} {l : List (Value × Value)} (k : MapOk ok l) (hk : ∀ v, ok v → ok' v) : MapOk ok' l := ⟨fun p hp => hk _ (k.keys p hp), k.nodup⟩
theorem MapOk.int {l : List (Value × Value)} (k : MapOk IntKey l) {n : Int} (v : Value) : MapOk IntKey (mset l (.int .i64 n) v) := k.set ⟨n, rfl⟩ v
theorem mget_int (l : List (Value × Value)) (n m : Int) (v : Value) : mget (mset l (.int .i64 n) v) (.int .i64 m) = if m = n then some v else mget l (.int .i64 m) := by
  rw [mget_mset]
  by_cases e : m = n
  · subst e; rw [if_pos rfl, if_pos rfl]
  · rw [if_neg e, if_neg (by simp [e])]
/-! ### Results that grow -/
/-- Elements whose memory is new. -/
def Grown (es : Nat) (μ μ' : Mem) (ds : List D) (ys : List Value) : Prop := ∃ g, OwnRows es ds ys g ∧ g.Le μ' ∧ ∀ b, g b ≠ none → μ b = none
theorem Grown.nil (es : Nat) (μ μ' : Mem) : Grown es μ μ' [] [] := ⟨Mem.nil, OwnRows.nil es, (fun _ _ h => nomatch h), fun _ h => absurd rfl h⟩
theorem Grown.snoc {es : Nat} {μ μ' μ'' : Mem} {ds : List D} {ys : List Value} {d : D} {v : Value} (k : Grown es μ μ' ds ys) (h0 : μ.Le μ') (hv : Fresh μ' μ'' d v) (h1 : μ'.Le μ'') (hn : d.n = es) : Grown es μ μ'' (ds ++ [d]) (ys ++ [v]) := by
  obtain ⟨g, a, b, c⟩ := k
  obtain ⟨g', a', b', c'⟩ := hv
  refine ⟨g.join g', a.snoc a' hn (fresh_apart b c'), join_le (b.trans h1) b', fun x hx => ?_⟩
  rcases join_ne hx with h | h
  · exact c x h
  · have h3 := c' x h
    cases h4 : μ x with
    | none => rfl
    | some o => rw [h0 x o h4] at h3; cases h3
theorem Grown.mono {es : Nat} {μ μ' μ'' : Mem} {ds : List D} {ys : List Value} (k : Grown es μ μ' ds ys) (h : μ'.Le μ'') : Grown es μ μ'' ds ys := by
  obtain ⟨g, a, b, c⟩ := k
  exact ⟨g, a, b.trans h, c⟩
theorem Grown.len {es : Nat} {μ μ' : Mem} {ds : List D} {ys : List Value} (k : Grown es μ μ' ds ys) : ds.length = ys.length := by
  obtain ⟨g, a, _⟩ := k
  exact a.len
theorem Grown.fresh {es : Nat} {μ μ1 μ' : Mem} {b : Option Nat} {cap : Nat} {ds : List D} {ys : List Value} (k : Grown es μ μ1 ds ys) (h0 : μ.Le μ1) (h1 : μ1.Le μ') (hb : ∀ r, b = some r → μ1 r = none) (hr : RowAt μ' b cap es ys) (hm : ys.length ≤ maxLen) :
    Fresh μ μ' (.sl es ds) (.slice (b.map fun r => ⟨r, 0, none⟩) ys.length cap) := by
  obtain ⟨g, a, b', c⟩ := k
  exact Fresh.ofRow a b' c h0 h1 hb hr hm
/-! ### Owned memory lent -/
theorem Fresh.unlend {μ1 : Mem} {d : D} {v : Value} (k : Fresh (μ.join H) μ1 d v) (ha : Apart μ H) : Fresh μ (μ1.sub H) d v := by
  obtain ⟨g, a, b, c⟩ := k
  have c1 : ∀ x, g x ≠ none → μ x = none ∧ H x = none := fun x hx => by
    have h1 := c x hx
    rw [Mem.join_get] at h1
    cases h2 : μ x with
    | none => rw [h2] at h1; exact ⟨rfl, h1⟩
    | some o => rw [h2] at h1; cases h1
  refine ⟨g, a, fun x o hx => ?_, fun x hx => (c1 x hx).1⟩
  rw [Mem.sub_of (c1 x (by simp [hx])).2]
  exact b x o hx
variable {dr : Bool} {s : St} {K : Value → St → Prop}
/-- A call that reads owned memory and makes new data. -/
theorem call_lend {d : D} (hap : Apart s.mem s.own) (h : Spec P f args (s.mem.join s.own) fun v μ' => Fresh (s.mem.join s.own) μ' d v)
    (k : ∀ v μ', s.mem.Le μ' → Apart μ' s.own → Fresh s.mem μ' d v → memOwnK s μ' s.own fun s => K v s) : callVC dr P f args s K :=
  call_own (SpecH.lend hap h) fun v μ' H' hle ha' ⟨h1, μ1, h2, _, h4⟩ => by
    subst h1 h4
    exact k v _ hle ha' (h2.unlend hap)
end
section
variable {μ : Mem}
/-- Variables visited; what the closure owns is told by a relation. -/
theorem eachVar_rel {S : Type} (J : S → Mem → Prop) (step : S → Int → S) (Q : S → Int → Prop) {k : FuncId} {caps : List Value}
    (hc : ∀ s h n, Q s n → J s h → SpecH Try.prog k (.int .i64 n :: caps) μ h fun r μ' h' => r = .tuple #[] ∧ μ' = μ ∧ J (step s n) h') :
    ∀ (x : T) {v : Value} (s : S) (h : Mem), RepV μ x.tm.d v → (∀ pre n post, x.vars = pre ++ n :: post → Q (pre.foldl step s) n) → J s h → SpecH Try.prog 128 [v, .func (.func k) #[] caps.toArray] μ h fun r μ' h' => r = .tuple #[] ∧ μ' = μ ∧ J (x.vars.foldl step s) h'
  | .var n, v, s, h, hv, hq, hj => by
    obtain ⟨base, cap, rfl, hsl⟩ := Tm.inv hv
    refine SpecH.mk [] Try.func128 (by kernel_rfl) ?_
    intro r
    refine ifd (fun _ => ?_) (fun h => absurd rfl h)
    refine call_own (hc s h n (hq [] n [] rfl) hj) fun v μ' h' hle hap hR => ?_
    obtain ⟨rfl, e2, hj'⟩ := hR
    obtain rfl := e2.symm
    refine ifd (fun h => absurd h (by decide)) (fun _ => ?_)
    exact ret_plain ⟨rfl, rfl, hj'⟩
  | .nil, v, s, h, hv, hq, hj => by
    obtain ⟨base, cap, rfl, hsl⟩ := Tm.inv hv
    refine SpecH.mk [] Try.func128 (by kernel_rfl) ?_
    intro r
    refine ifd (fun h => absurd h (by decide)) (fun _ => ?_)
    refine ifd (fun h => absurd h (by decide)) (fun _ => ?_)
    exact ret_plain ⟨rfl, rfl, hj⟩
  | .sym _, v, s, h, hv, hq, hj => by
    obtain ⟨base, cap, rfl, hsl⟩ := Tm.inv hv
    refine SpecH.mk [] Try.func128 (by kernel_rfl) ?_
    intro r
    refine ifd (fun h => absurd h (by decide)) (fun _ => ?_)
    refine ifd (fun h => absurd h (by decide)) (fun _ => ?_)
    exact ret_plain ⟨rfl, rfl, hj⟩
  | .num _, v, s, h, hv, hq, hj => by
    obtain ⟨base, cap, rfl, hsl⟩ := Tm.inv hv
    refine SpecH.mk [] Try.func128 (by kernel_rfl) ?_
    intro r
    refine ifd (fun h => absurd h (by decide)) (fun _ => ?_)
    refine ifd (fun h => absurd h (by decide)) (fun _ => ?_)
    exact ret_plain ⟨rfl, rfl, hj⟩
  | .pair a b, v, s, h, hv, hq, hj => by
    obtain ⟨base, cap, rfl, hsl⟩ := Tm.inv hv
    obtain ⟨ad, ad', p, p', h1, h2, hra, hrb⟩ := T.parts hsl
    refine SpecH.mk [] Try.func128 (by kernel_rfl) ?_
    intro r
    refine ifd (fun h => absurd h (by decide)) (fun _ => ?_)
    refine ifd (fun _ => ?_) (fun h => absurd rfl h)
    refine elem_intro h1 (call_own (eachVar_rel J step Q hc a s h hra (fun pre n post e => hq pre n (post ++ b.vars) (by simp [T.vars, e])) hj) fun v μ' h' hle hap hR => ?_)
    obtain ⟨rfl, e2, hj'⟩ := hR
    obtain rfl := e2.symm
    refine elem_intro h2 (call_own (eachVar_rel J step Q hc b _ h' hrb (fun pre n post e => by
      have := hq (a.vars ++ pre) n post (by simp [T.vars, e])
      rwa [List.foldl_append] at this) hj') fun v μ' h' hle hap hR => ?_)
    obtain ⟨rfl, e2, hj'⟩ := hR
    obtain rfl := e2.symm
    exact ret_plain ⟨rfl, rfl, by simpa [T.vars, List.foldl_append] using hj'⟩
end
end Go.Vx

/- Contracts: variables in the order in which they come. -/
namespace Go.Vx
open Go.Proofs Classical
noncomputable def ord (acc : List Int) (n : Int) : List Int := if n ∈ acc then acc else acc ++ [n]
noncomputable def ordAll (acc vs : List Int) : List Int := vs.foldl ord acc
theorem ordAll_append (acc a b : List Int) : ordAll acc (a ++ b) = ordAll (ordAll acc a) b := List.foldl_append
theorem ord_length (acc : List Int) (n : Int) : (ord acc n).length ≤ acc.length + 1 := by unfold ord; split <;> simp
theorem ordAll_length : ∀ (vs acc : List Int), (ordAll acc vs).length ≤ acc.length + vs.length
  | [], acc => by simp [ordAll]
  | n :: vs, acc => by
    have h1 := ordAll_length vs (ord acc n)
    have h2 := ord_length acc n
    simp only [ordAll, List.foldl_cons, List.length_cons] at *
    omega
theorem ord_mem (acc : List Int) (n m : Int) : m ∈ ord acc n ↔ m = n ∨ m ∈ acc := by
  unfold ord
  split
  · rename_i h
    exact ⟨.inr, fun k => k.elim (fun e => e ▸ h) id⟩
  · simp only [List.mem_append, List.mem_singleton]
    exact or_comm
theorem ordAll_mem : ∀ (vs acc : List Int) (m : Int), m ∈ ordAll acc vs ↔ m ∈ vs ∨ m ∈ acc
  | [], acc, m => by simp [ordAll]
  | n :: vs, acc, m => by
    have := ordAll_mem vs (ord acc n) m
    simp only [ordAll, List.foldl_cons] at *
    rw [this, ord_mem, List.mem_cons]
    constructor
    · rintro (h | h | h) <;> simp [h]
    · rintro ((h | h) | h) <;> simp [h]
theorem ord_nodup {acc : List Int} (h : acc.Nodup) (n : Int) : (ord acc n).Nodup := by
  unfold ord
  split
  · exact h
  · rename_i hn
    refine List.nodup_append.2 ⟨h, by simp, fun a ha b hb => ?_⟩
    simp only [List.mem_singleton] at hb
    subst hb
    exact fun e => hn (e ▸ ha)
theorem ordAll_nodup : ∀ (vs : List Int) {acc : List Int}, acc.Nodup → (ordAll acc vs).Nodup
  | [], _, h => h
  | n :: vs, acc, h => ordAll_nodup vs (ord_nodup h n)
section
variable {μ : Mem}
/-- What the program's closure owns: the set of those seen, and those in order. -/
def OrdInv (rm ro : Nat) (acc : List Int) (h : Mem) : Prop := ∃ r rr cap l, h rm = some (.cells #[.map (some r)] 238 (0, 0)) ∧ h ro = some (.cells #[.slice (some ⟨rr, 0, none⟩) acc.length cap] 84 (0, 0)) ∧
  h r = some (mapO l) ∧ MapOk IntKey l ∧ (∀ n, mget l (.int .i64 n) = if n ∈ acc then some (.bool true) else none) ∧ RowO h rr cap 3 1 (ints acc)
theorem flat_vars_length {xs : List T} (hx : ∀ x ∈ xs, x.size ≤ 5000) : (xs.flatMap T.vars).length ≤ xs.length * 5000 := by
  induction xs with
  | nil => simp
  | cons x xs ih =>
    have h1 := T.vars_size x
    have h2 := hx x (by simp)
    have h3 := ih fun y hy => hx y (by simp [hy])
    simp only [List.flatMap_cons, List.length_append, List.length_cons]
    omega
theorem flat_take {α β : Type} {f : α → List β} {xs : List α} {i : Nat} {x : α} (h : xs[i]? = some x) : (xs.take (i + 1)).flatMap f = (xs.take i).flatMap f ++ f x := by
  rw [List.take_add_one, h, Option.toList_some, List.flatMap_append]; simp
/-! ### The reference's -/
end
end Go.Vx

/- Contracts: bindings inserted; names by number; the reference's canonical terms. -/
namespace Go.Vx
open Go.Proofs Classical
section
variable {μ : Mem}
theorem Rep.val : ∀ {d : D} {c : List Value}, Rep μ d c → ∃ v, RepV μ d v ∧ vcells v = c
  | .st fs, c, h => ⟨.agg c.toArray, ⟨c, rfl, h⟩, by simp [vcells]⟩
  | .i n, c, h => by
    have h2 : c = [.int .i64 n] := h
    subst h2; exact ⟨_, h, rfl⟩
  | .b x, c, h => by
    have h2 : c = [.bool x] := h
    subst h2; exact ⟨_, h, rfl⟩
  | .s x, c, h => by
    have h2 : c = [.string x] := h
    subst h2; exact ⟨_, h, rfl⟩
  | .sl es xs, c, h => by
    obtain ⟨base, cap, h1, h2⟩ := h
    subst h1
    exact ⟨_, ⟨base, cap, rfl, h2⟩, rfl⟩
theorem RepS.rows {es : Nat} : ∀ {l : List D} {flat : List Value}, RepS μ l flat → (∀ x ∈ l, x.n = es) → ∃ vs, Rows μ es l vs ∧ vs.flatMap vcells = flat
  | [], flat, h, _ => by
    have h : flat = [] := h
    subst h; exact ⟨[], .nil, rfl⟩
  | d :: l, flat, h, hn => by
    obtain ⟨c1, c2, rfl, h1, h2⟩ := h
    obtain ⟨v, hv, rfl⟩ := Rep.val h1
    obtain ⟨vs, hr, rfl⟩ := RepS.rows h2 fun x hx => hn x (by simp [hx])
    exact ⟨v :: vs, .cons hv (hn d (by simp)) hr, by simp⟩
theorem Rows.take {es : Nat} : ∀ {ds : List D} {vs : List Value} (k : Nat), Rows μ es ds vs → Rows μ es (ds.take k) (vs.take k)
  | _, _, 0, _ => by simpa using Rows.nil
  | _, _, k + 1, .nil => by simpa using Rows.nil
  | _, _, k + 1, .cons h hn r => by simpa using Rows.cons h hn (r.take k)
theorem Rows.drop {es : Nat} : ∀ {ds : List D} {vs : List Value} (k : Nat), Rows μ es ds vs → Rows μ es (ds.drop k) (vs.drop k)
  | _, _, 0, h => by simpa using h
  | _, _, k + 1, .nil => by simpa using Rows.nil
  | _, _, k + 1, .cons h hn r => by simpa using r.drop k
theorem Rows.size {es : Nat} : ∀ {ds : List D} {vs : List Value}, Rows μ es ds vs → ∀ v ∈ vs, (vcells v).length = es ∧ ∀ u ∈ vcells v, u.oneCell' = true
  | _, _, .nil, v, hv => by simp at hv
  | _, _, .cons h hn r, v, hv => by
    rcases List.mem_cons.1 hv with rfl | hv
    · exact ⟨by rw [Rep.len _ _ h.cells]; exact hn, Rep.one _ _ h.cells⟩
    · exact r.size v hv
/-- A slice's elements as a row that an append may read. -/
theorem Rep.src {es n cap : Nat} {base : Option Addr} {ds : List D} (h : RepV μ (.sl es ds) (.slice base n cap)) :
    ∃ vs, Rows μ es ds vs ∧ vs.length = n ∧ n ≤ cap ∧ ∀ a b, a ≤ b → b ≤ n → SrcAt μ (if cap = a then base else base.map (·.add (a * es))) (b - a) es ((vs.drop a).take (b - a)) := by
  have h' : Rep μ (.sl es ds) [.slice base n cap] := h
  have hcap := Rep.lens h'
  obtain ⟨b0, c0, h1, h2, h3, h4⟩ := h'
  simp only [List.cons.injEq, and_true] at h1
  obtain ⟨rfl, rfl, rfl⟩ := Value.slice.inj h1
  have : ∃ vs, Rows μ es ds vs ∧ (ds = [] ∨ ∃ a0, base = some a0 ∧ CellsAt μ a0 (vs.flatMap vcells)) := by
    rcases h4 with rfl | ⟨a0, flat, g1, g2, g3⟩
    · exact ⟨[], .nil, .inl rfl⟩
    · obtain ⟨vs, hr, rfl⟩ := RepS.rows g3 h3
      exact ⟨vs, hr, .inr ⟨a0, g1, g2⟩⟩
  obtain ⟨vs, hr, hc⟩ := this
  have hlen := hr.len
  refine ⟨vs, hr, hlen.symm, hcap, fun a b hab hb => ⟨by simp; omega, fun y hy => hr.size y (List.mem_of_mem_drop (List.mem_of_mem_take hy)), ?_⟩⟩
  rcases Nat.eq_or_lt_of_le hab with e | hlt
  · exact .inl (by omega)
  · right
    rcases hc with e | ⟨a0, e, hcell⟩
    · subst e; simp at hb; omega
    · subst e
      refine ⟨a0.add (a * es), by rw [if_neg (by omega)]; rfl, fun j v hj => ?_⟩
      rw [add_add]
      refine hcell _ _ ?_
      have e1 : vs.flatMap vcells = (vs.take a).flatMap vcells ++ (((vs.drop a).take (b - a)).flatMap vcells ++ ((vs.drop a).drop (b - a)).flatMap vcells) := by
        rw [← List.flatMap_append, List.take_append_drop, ← List.flatMap_append, List.take_append_drop]
      have e2 : ((vs.take a).flatMap vcells).length = a * es := by
        rw [flat_len (es := es) (vs.take a) fun y hy => (hr.size y (List.mem_of_mem_take hy)).1]
        congr 1; simp; omega
      rw [e1, List.getElem?_append_right (by omega), e2, Nat.add_sub_cancel_left, List.getElem?_append_left (List.getElem?_eq_some_iff.1 hj).1]
      exact hj
/-! ### Insertion -/
def insAt {α : Type} (l : List α) (x : α) (k : Nat) : List α := l.take k ++ ([x] ++ l.drop k)
theorem insAt_mem {α : Type} (l : List α) (x y : α) (k : Nat) : y ∈ insAt l x k ↔ y = x ∨ y ∈ l := by
  have h2 : y ∈ l ↔ y ∈ l.take k ∨ y ∈ l.drop k := by rw [← List.mem_append, List.take_append_drop]
  simp only [insAt, List.mem_append, List.mem_singleton, h2]
  constructor
  · rintro (h | h | h) <;> simp [h]
  · rintro (h | h | h) <;> simp [h]
theorem insAt_length {α : Type} (l : List α) (x : α) (k : Nat) : (insAt l x k).length = l.length + 1 := by
  have := congrArg List.length (List.take_append_drop k l)
  simp only [insAt, List.length_append, List.length_singleton] at *
  omega
theorem insAt_map {α β : Type} (f : α → β) (l : List α) (x : α) (k : Nat) : (insAt l x k).map f = insAt (l.map f) (f x) k := by
  simp [insAt]
/-- Where an insertion goes, seen from the right. -/
def InsPos (bs : List B) (n : Int) (k : Nat) : Prop := k ≤ bs.length ∧ (∀ c, bs[k - 1]? = some c → 0 < k → c.var ≤ n) ∧ ∀ j c, k ≤ j → bs[j]? = some c → n < c.var
theorem sub_append (a c : List B) (n : Int) : sub (a ++ c) n = (sub a n).or (sub c n) := by
  induction a with
  | nil => simp [sub]
  | cons b a ih =>
    simp only [List.cons_append, sub]
    split
    · simp
    · exact ih
theorem sub_insAt {bs : List B} {b : B} (h : ∀ c ∈ bs, c.var ≠ b.var) (k : Nat) (n : Int) : sub (insAt bs b k) n = if b.var = n then some b.to else sub bs n := by
  have e := List.take_append_drop k bs
  have e2 : sub bs n = (sub (bs.take k) n).or (sub (bs.drop k) n) := by rw [← sub_append, e]
  rw [insAt, sub_append, sub_append, e2]
  by_cases hn : b.var = n
  · have h1 : sub (bs.take k) n = none := sub_none fun c hc => by rw [← hn]; exact h c (List.mem_of_mem_take hc)
    rw [if_pos hn, h1]
    simp [sub, hn]
  · rw [if_neg hn]
    simp [sub, hn]
theorem sub_mem {bs : List B} {b : B} (h : b ∈ bs) : sub bs b.var ≠ none := by
  induction bs with
  | nil => simp at h
  | cons c bs ih =>
    rw [sub]
    split
    · simp
    · rename_i hne
      rcases List.mem_cons.1 h with e | h
      · subst e; exact absurd rfl hne
      · exact ih h
theorem l04Insert_spec {bs : List B} {b : B} {v vb : Value} (hv : RepV μ (.sl 5 ((bs.map B.bd).map Bd.d)) v) (hb : RepV μ b.bd.d vb) (hn : bs.length ≤ 1000000000) :
    Spec Try.prog 71 [v, vb] μ fun v μ' => ∃ k, InsPos bs b.var k ∧ RepV μ' (.sl 5 (((insAt bs b k).map B.bd).map Bd.d)) v := by
  obtain ⟨base, cap, rfl, hsl⟩ := Rep.sl hv
  rw [List.length_map, List.length_map] at hsl hv ⊢
  obtain ⟨p, rfl⟩ := Bd.invV hb
  obtain ⟨vs, hrows, hvl, hcap, hsrc⟩ := Rep.src hv
  refine Spec.mk Try.func71 (by kernel_rfl) ?_
  intro r
  refine loop_intro (fun k : Nat => k ≤ bs.length ∧ ∀ (j : Nat) c, k ≤ j → bs[j]? = some c → b.var < c.var) (fun k => ⟨[(0, .val (.slice base bs.length cap)), (3, .loc 0 r 0), (5, .val (.int .i64 k))], [(0, some (.cells r [.val (.int .i64 b.bd.var), .val (.int .i64 b.bd.to.kind), .val (.int .i64 b.bd.to.num), .val (.string b.bd.to.name), .val (.slice p.1 b.bd.to.args.length p.2)] 109))], 1, μ, Mem.nil⟩) (fun k => k)
    bs.length ⟨Nat.le_refl _, fun j c hj hc => absurd (List.getElem?_eq_some_iff.1 hc).1 (by omega)⟩ (fun i => ⟨rfl, rfl⟩) ⟨⟨rfl, rfl, rfl, trivial⟩, ⟨rfl, trivial⟩, rfl, rfl⟩ ?_
  rintro k ⟨hk, hgt⟩
  refine ifd (fun h1 => ?_) (fun h1 => ?_)
  · obtain ⟨c, hc⟩ := at_some (l := bs) (i := k - 1) (by omega)
    obtain ⟨ad, q, hel, _⟩ := B.elem hsl hc
    refine num_eq (x := ((k - 1 : Nat) : Int)) (by rw [wrap64 (by omega) (by omega)]; omega) ?_
    refine elem_intro hel ?_
    refine ifd (fun h2 => ?_) (fun h2 => ?_)
    · refine num_eq (x := ((k - 1 : Nat) : Int)) (by rw [wrap64 (by omega) (by omega)]; omega) ⟨k - 1, ⟨by omega, fun j c' hj hc' => ?_⟩, by omega, ⟨⟨rfl, rfl, rfl, trivial⟩, ⟨rfl, trivial⟩, rfl, rfl⟩⟩
      rcases Nat.lt_or_ge j k with h3 | h3
      · obtain rfl : j = k - 1 := by omega
        rw [hc] at hc'; cases hc'; exact h2
      · exact hgt j c' h3 hc'
    · have hpos : InsPos bs b.var k := ⟨hk, fun c' hc' _ => by rw [hc] at hc'; cases hc'; exact Int.not_lt.1 h2, hgt⟩
      intro r0
      refine cut_intro 0 k rfl rfl (by omega) (by omega) ?_
      refine src_intro _ (hsrc 0 k (by omega) hk) ?_
      refine grow_intro ?_ ?_ fun b1 c1 _ => ?_
      · show (0 + _) * 64 ≤ _; simp; omega
      · exact Nat.le_trans (m := 2000000000) (by simp; omega) (by decide)
      intro r1
      refine grow_intro ?_ ?_ fun b2 c2 _ => ?_
      · show (_ + 1) * 64 ≤ _; simp; omega
      · exact Nat.le_trans (m := 2000000000) (by simp; omega) (by decide)
      refine cut_intro k bs.length rfl rfl hk (by omega) ?_
      refine src_intro _ (hsrc k bs.length hk (Nat.le_refl _)) ?_
      refine grow_intro ?_ ?_ fun b3 c3 _ => ?_
      · show (_ + _) * 64 ≤ _; simp; omega
      · exact Nat.le_trans (m := 3000000000) (by simp; omega) (by decide)
      refine ret_frz [1] fun μ' hle hno hrow => .inl ⟨k, hpos, ?_⟩
      have hr2 := ((hrows.take k).append ((Rows.one hb (Bd.d_n _)).append (hrows.drop k))).mono hle
      have e : (([] : List Value) ++ (vs.drop 0).take (k - 0) ++ [.agg #[.int .i64 b.bd.var, .int .i64 b.bd.to.kind, .int .i64 b.bd.to.num, .string b.bd.to.name, .slice p.1 b.bd.to.args.length p.2]] ++ (vs.drop k).take (bs.length - k)) = vs.take k ++ ([.agg #[.int .i64 b.bd.var, .int .i64 b.bd.to.kind, .int .i64 b.bd.to.num, .string b.bd.to.name, .slice p.1 b.bd.to.args.length p.2]] ++ vs.drop k) := by
        simp
        rw [List.take_of_length_le (by simp; omega)]
      rw [e] at hrow ⊢
      have e2 : ((insAt bs b k).map B.bd).map Bd.d = ((bs.map B.bd).map Bd.d).take k ++ ([b.bd.d] ++ ((bs.map B.bd).map Bd.d).drop k) := by simp [insAt]
      rw [e2]
      exact Rows.sl hrow hr2 (Nat.le_trans (m := 3000000000) (by simp; omega) (by decide))
  · have hpos : InsPos bs b.var k := ⟨hk, fun c' hc' h => by omega, hgt⟩
    intro r0
    refine cut_intro 0 k rfl rfl (by omega) (by omega) ?_
    refine src_intro _ (hsrc 0 k (by omega) hk) ?_
    refine grow_intro ?_ ?_ fun b1 c1 _ => ?_
    · show (0 + _) * 64 ≤ _; simp; omega
    · exact Nat.le_trans (m := 2000000000) (by simp; omega) (by decide)
    intro r1
    refine grow_intro ?_ ?_ fun b2 c2 _ => ?_
    · show (_ + 1) * 64 ≤ _; simp; omega
    · exact Nat.le_trans (m := 2000000000) (by simp; omega) (by decide)
    refine cut_intro k bs.length rfl rfl hk (by omega) ?_
    refine src_intro _ (hsrc k bs.length hk (Nat.le_refl _)) ?_
    refine grow_intro ?_ ?_ fun b3 c3 _ => ?_
    · show (_ + _) * 64 ≤ _; simp; omega
    · exact Nat.le_trans (m := 3000000000) (by simp; omega) (by decide)
    refine ret_frz [1] fun μ' hle hno hrow => .inl ⟨k, hpos, ?_⟩
    have hr2 := ((hrows.take k).append ((Rows.one hb (Bd.d_n _)).append (hrows.drop k))).mono hle
    have e : (([] : List Value) ++ (vs.drop 0).take (k - 0) ++ [.agg #[.int .i64 b.bd.var, .int .i64 b.bd.to.kind, .int .i64 b.bd.to.num, .string b.bd.to.name, .slice p.1 b.bd.to.args.length p.2]] ++ (vs.drop k).take (bs.length - k)) = vs.take k ++ ([.agg #[.int .i64 b.bd.var, .int .i64 b.bd.to.kind, .int .i64 b.bd.to.num, .string b.bd.to.name, .slice p.1 b.bd.to.args.length p.2]] ++ vs.drop k) := by
      simp
      rw [List.take_of_length_le (by simp; omega)]
    rw [e] at hrow ⊢
    have e2 : ((insAt bs b k).map B.bd).map Bd.d = ((bs.map B.bd).map Bd.d).take k ++ ([b.bd.d] ++ ((bs.map B.bd).map Bd.d).drop k) := by simp [insAt]
    rw [e2]
    exact Rows.sl hrow hr2 (Nat.le_trans (m := 3000000000) (by simp; omega) (by decide))
/-! ### Names by number -/
noncomputable def canonF (vs : List Int) (n : Int) : Option T := if n ∈ vs then some (.var (vs.idxOf n)) else none
theorem idx_at : ∀ {l : List Int} (_ : l.Nodup) {i : Nat} {n : Int}, l[i]? = some n → l.idxOf n = i
  | [], _, i, n, h => by simp at h
  | a :: l, hn, 0, n, h => by
    simp only [List.getElem?_cons_zero, Option.some.injEq] at h
    subst h; simp
  | a :: l, hn, i + 1, n, h => by
    simp only [List.getElem?_cons_succ] at h
    simp only [List.nodup_cons] at hn
    have hne : ¬ a = n := fun e => hn.1 (by subst e; exact List.mem_of_getElem? h)
    have hb : (a == n) = false := by simp [hne]
    rw [List.idxOf_cons, hb, idx_at hn.2 h]
    rfl
/-- Numbers of variables lie in a range. -/
theorem T.vars_range : ∀ {x : T}, x.good → ∀ n ∈ x.vars, 0 ≤ n ∧ n ≤ 100000
  | .var n, h, m, hm => by
    simp only [T.vars, List.mem_singleton] at hm
    subst hm; exact h
  | .pair a b, h, m, hm => by
    simp only [T.vars, List.mem_append] at hm
    exact hm.elim (T.vars_range h.1 m) (T.vars_range h.2 m)
  | .nil, _, m, hm => by simp [T.vars] at hm
  | .sym _, _, m, hm => by simp [T.vars] at hm
  | .num _, _, m, hm => by simp [T.vars] at hm
theorem nodup_range {N : Nat} : ∀ {l : List Int}, l.Nodup → (∀ n ∈ l, 0 ≤ n ∧ n < N) → l.length ≤ N := by
  induction N with
  | zero =>
    intro l _ h
    cases l with
    | nil => simp
    | cons a l => have := h a (by simp); omega
  | succ N ih =>
    intro l hn h
    have h1 := ih (l := l.erase (N : Int)) (hn.erase _) fun n hm => by
      rw [hn.mem_erase_iff] at hm
      have := h n hm.2
      have h2 : n ≠ (N : Int) := hm.1
      omega
    have h2 : l.length ≤ (l.erase (N : Int)).length + 1 := by
      rw [List.length_erase]; split <;> omega
    omega
theorem ordAll_range {xs : List T} (hx : ∀ x ∈ xs, x.ok) : (ordAll [] (xs.flatMap T.vars)).length ≤ 100001 := by
  refine nodup_range (ordAll_nodup _ (by simp)) fun n hn => ?_
  rw [ordAll_mem] at hn
  rcases hn with hn | hn
  · obtain ⟨x, hx', hm⟩ := List.mem_flatMap.1 hn
    have := T.vars_range (hx x hx').1 n hm
    omega
  · simp at hn
/-! ### Canonical terms -/
theorem T.subst_congr {f g : Int → Option T} : ∀ (x : T), (∀ n ∈ x.vars, f n = g n) → x.subst f = x.subst g
  | .var n, h => by simp only [T.subst]; rw [h n (by simp [T.vars])]
  | .pair a b, h => by
    simp only [T.subst]
    rw [T.subst_congr a fun n hn => h n (by simp [T.vars, hn]), T.subst_congr b fun n hn => h n (by simp [T.vars, hn])]
  | .nil, _ => rfl
  | .sym _, _ => rfl
  | .num _, _ => rfl
theorem T.subst_vars_size {f : Int → Option T} (hf : ∀ n y, f n = some y → y.size = 1) : ∀ (x : T), (x.subst f).size = x.size
  | .var n => by
    simp only [T.subst]
    cases h : f n with
    | none => rfl
    | some y => simpa [T.size] using hf n y h
  | .pair a b => by simp only [T.subst, T.size, T.subst_vars_size hf a, T.subst_vars_size hf b]
  | .nil => rfl
  | .sym _ => rfl
  | .num _ => rfl
noncomputable def canon (xs : List T) : List T := xs.map (·.subst (canonF (ordAll [] (xs.flatMap T.vars))))
theorem canonF_size (vs : List Int) (n : Int) (y : T) (h : canonF vs n = some y) : y.size = 1 := by
  unfold canonF at h
  split at h
  · cases h; rfl
  · cases h
end
end Go.Vx

/- Plain: lists in strict order; the least disequalities. -/
namespace Go.Vx
open Go.Proofs Classical
section
variable {α : Type} {c : α → α → Int}
def Asc3 (c : α → α → Int) (l : List α) : Prop := l.Pairwise fun a b => c a b < 0
theorem Ord3.irrefl (h : Ord3 c) (x : α) : ¬ c x x < 0 := by have := (h.zero x x).2 rfl; omega
theorem Ord3.ge_pos (h : Ord3 c) {x y : α} (h1 : ¬ c x y < 0) (h2 : c x y ≠ 0) : c y x < 0 := (h.anti y x).2 (by omega)
theorem Ord3.ne_comm (h : Ord3 c) {x y : α} (h2 : c x y ≠ 0) : c y x ≠ 0 := fun k => h2 ((h.zero _ _).2 ((h.zero _ _).1 k).symm)
/-- Not greater, then less. -/
theorem Ord3.le_lt (h : Ord3 c) {x y z : α} (h1 : ¬ c y x < 0) (h2 : c y z < 0) : c x z < 0 := by
  by_cases e : c y x = 0
  · rw [← (h.zero _ _).1 e]; exact h2
  · exact h.trans _ _ _ (h.ge_pos h1 e) h2
theorem Asc3.nodup (h : Ord3 c) {l : List α} (hl : Asc3 c l) : l.Nodup := hl.imp fun {a b} k e => by subst e; exact h.irrefl _ k
theorem Asc3.uniq (h : Ord3 c) {l m : List α} (hl : Asc3 c l) (hm : Asc3 c m) (e : ∀ x, x ∈ l ↔ x ∈ m) : l = m := by
  have hp : l.Perm m := (List.perm_ext_iff_of_nodup (hl.nodup h) (hm.nodup h)).2 e
  refine List.Perm.eq_of_pairwise (le := fun a b => c a b < 0) (fun a b _ _ h1 h2 => ?_) hl hm hp
  have := (h.anti a b).1 h1
  omega
theorem Asc3.ins (h : Ord3 c) {l : List α} {e : α} {k : Nat} (hl : Asc3 c l) (h1 : ∀ x ∈ l.take k, c x e < 0) (h2 : ∀ x ∈ l.drop k, c e x < 0) : Asc3 c (insAt l e k) := by
  rw [insAt, Asc3, List.pairwise_append]
  refine ⟨hl.sublist (List.take_sublist _ _), ?_, fun a ha b hb => ?_⟩
  · exact List.pairwise_cons.2 ⟨h2, hl.sublist (List.drop_sublist _ _)⟩
  · rcases List.mem_cons.1 hb with rfl | hb
    · exact h1 a ha
    · exact h.trans _ _ _ (h1 a ha) (h2 b hb)
theorem Asc3.take_lt (h : Ord3 c) {l : List α} (hl : Asc3 c l) {k : Nat} {y e : α} (hy : l[k]? = some y) (hc : c y e < 0) : ∀ x ∈ l.take (k + 1), c x e < 0 := by
  rw [List.take_add_one, hy, Option.toList_some]
  intro x hx
  rcases List.mem_append.1 hx with hx | hx
  · rw [Asc3, ← List.take_append_drop k l, List.pairwise_append] at hl
    exact h.trans _ _ _ (hl.2.2 x hx y (by rw [drop_at hy]; simp)) hc
  · rw [List.mem_singleton.1 hx]; exact hc
theorem Asc3.drop_gt (h : Ord3 c) {l : List α} (hl : Asc3 c l) {k : Nat} {y e : α} (hy : l[k]? = some y) (hc : c e y < 0) : ∀ x ∈ l.drop k, c e x < 0 := by
  rw [drop_at hy]
  intro x hx
  rcases List.mem_cons.1 hx with rfl | hx
  · exact hc
  · rw [Asc3, ← List.take_append_drop k l, List.pairwise_append, drop_at hy, List.pairwise_cons] at hl
    exact h.trans _ _ _ hc (hl.2.1.1 x hx)
theorem exists_ins (h : Ord3 c) (e : α) : ∀ l : List α, Asc3 c l → e ∈ l ∨ ∃ k, (∀ x ∈ l.take k, c x e < 0) ∧ ∀ x ∈ l.drop k, c e x < 0
  | [], _ => .inr ⟨0, by simp, by simp⟩
  | a :: l, hl => by
    obtain ⟨ha, hl⟩ := List.pairwise_cons.1 hl
    by_cases h0 : c e a = 0
    · exact .inl (by rw [(h.zero _ _).1 h0]; simp)
    · by_cases h1 : c e a < 0
      · exact .inr ⟨0, by simp, fun x hx => by
          rcases List.mem_cons.1 hx with rfl | hx
          · exact h1
          · exact h.trans _ _ _ h1 (ha x hx)⟩
      · have h3 := h.ge_pos h1 h0
        rcases exists_ins h e l hl with k | ⟨k, k1, k2⟩
        · exact .inl (List.mem_cons_of_mem _ k)
        · exact .inr ⟨k + 1, fun x hx => by
            rw [List.take_succ_cons] at hx
            rcases List.mem_cons.1 hx with rfl | hx
            · exact h3
            · exact k1 x hx, fun x hx => k2 x (by simpa using hx)⟩
theorem exists_asc (h : Ord3 c) : ∀ l : List α, ∃ m, Asc3 c m ∧ m.length ≤ l.length ∧ ∀ x, x ∈ m ↔ x ∈ l
  | [] => ⟨[], List.Pairwise.nil, Nat.le_refl _, fun _ => Iff.rfl⟩
  | a :: l => by
    obtain ⟨m, h1, h9, h2⟩ := exists_asc h l
    rcases exists_ins h a m h1 with k | ⟨k, k1, k2⟩
    · exact ⟨m, h1, by rw [List.length_cons]; omega, fun x => by
        rw [h2 x, List.mem_cons]
        exact ⟨.inr, fun g => g.elim (fun e => by subst e; exact (h2 _).1 k) id⟩⟩
    · exact ⟨insAt m a k, h1.ins h k1 k2, by rw [insAt_length, List.length_cons]; omega, fun x => by rw [insAt_mem, h2 x, List.mem_cons]⟩
/-- The elements in strict order, each once. -/
noncomputable def ascOf (h : Ord3 c) (l : List α) : List α := (exists_asc h l).choose
theorem ascOf_asc (h : Ord3 c) (l : List α) : Asc3 c (ascOf h l) := (exists_asc h l).choose_spec.1
theorem ascOf_len (h : Ord3 c) (l : List α) : (ascOf h l).length ≤ l.length := (exists_asc h l).choose_spec.2.1
theorem ascOf_mem (h : Ord3 c) (l : List α) (x : α) : x ∈ ascOf h l ↔ x ∈ l := (exists_asc h l).choose_spec.2.2 x
theorem ascOf_eq (h : Ord3 c) {l m : List α} (hm : Asc3 c m) (e : ∀ x, x ∈ m ↔ x ∈ l) : m = ascOf h l := hm.uniq h (ascOf_asc h l) fun x => by rw [e, ascOf_mem]
end
/-- No other one is more general. -/
def Keep (L : List (List B)) (e : List B) : Prop := ∀ d ∈ L, cmpB d e = 0 ∨ ¬ mgen d e
noncomputable def minL (L : List (List B)) : List (List B) := ascOf cmpB_ord (L.filter fun e => decide (Keep L e))
theorem minL_eq {L m : List (List B)} (hm : Asc3 cmpB m) (e : ∀ x, x ∈ m ↔ x ∈ L ∧ Keep L x) : m = minL L := ascOf_eq cmpB_ord hm fun x => by rw [e, List.mem_filter, decide_eq_true_eq]
theorem minL_mem {L : List (List B)} {x : List B} : x ∈ minL L ↔ x ∈ L ∧ Keep L x := by rw [minL, ascOf_mem, List.mem_filter, decide_eq_true_eq]
theorem minL_len (L : List (List B)) : (minL L).length ≤ L.length := Nat.le_trans (ascOf_len _ _) (List.length_filter_le _ _)
/-- A substitution as an element. -/
def dsOf (x : List B) : Ds := ⟨x.map B.bd⟩
def AllOk (l : List Ds) : Prop := ∀ x ∈ l, substOk x.bs
theorem AllOk.lift {l : List Ds} (h : AllOk l) : ∃ L : List (List B), l = L.map dsOf ∧ ∀ x ∈ L, Subst x := by
  induction l with
  | nil => exact ⟨[], rfl, by simp⟩
  | cons a l ih =>
    obtain ⟨L, rfl, hL⟩ := ih fun x hx => h x (by simp [hx])
    obtain ⟨bs, e, hb⟩ := (h a (by simp)).subst
    refine ⟨bs :: L, ?_, ?_⟩
    · cases a; simp only at e; subst e; rfl
    · intro x hx
      rcases List.mem_cons.1 hx with rfl | hx
      · exact hb
      · exact hL x hx
theorem map_b_bd (L : List (List B)) : (L.map dsOf).map (fun x => x.bs.map Bd.b) = L := by
  rw [List.map_map]
  refine (List.map_congr_left fun x _ => ?_).trans (List.map_id _)
  exact B.map_b x
/-- The least disequalities. -/
noncomputable def minD (l : List Ds) : List Ds := if AllOk l then (minL (l.map fun x => x.bs.map Bd.b)).map dsOf else []
theorem minD_map {L : List (List B)} (h : ∀ x ∈ L, Subst x) : minD (L.map dsOf) = (minL L).map dsOf := by
  rw [minD, if_pos, map_b_bd]
  intro x hx
  obtain ⟨y, hy, rfl⟩ := List.mem_map.1 hx
  exact (substOk_iff y).2 (h y hy)
end Go.Vx

/- Contracts: a row sorted by its owner's functions: insertion, turning round, a heap. -/
namespace Go.Vx
open Go.Proofs Classical
open Go.Sort
/-- The two functions that a sort is handed. -/
abbrev fdata (lf sf : FuncId) (lb sb : List Value) : Value := .agg #[.func (.func lf) #[] lb.toArray, .func (.func sf) #[] sb.toArray]
abbrev fblk (r : Nat) (lf sf : FuncId) (lb sb : List Value) : List (Nat × Option LB) := [(0, some (.cells r [.val (.func (.func lf) #[] lb.toArray), .val (.func (.func sf) #[] sb.toArray)] 177))]
/-- What those functions do: J d is the owned memory that holds the row d. -/
structure SortBy {α : Type} [Inhabited α] (lf sf : FuncId) (lb sb : List Value) (n : Nat) (lt : α → α → Bool) (μ0 : Mem) (J : Array α → Mem) (V : Array α → Prop) : Prop where
  max : n ≤ 1000000000000
  size : ∀ {d}, V d → d.size = n
  sw : ∀ {d : Array α} {i j : Nat}, V d → i < n → j < n → V (swp d i j)
  dom : ∀ {d d' : Array α} {b : Nat}, V d → V d' → J d b = none → J d' b = none
  less : ∀ {μ : Mem} {d : Array α} {i j : Nat}, μ0.Le μ → V d → i < n → j < n → SpecH Try.prog lf (.int .i64 i :: .int .i64 j :: lb) μ (J d) fun v μ' h' => v = .bool (lt d[i]! d[j]!) ∧ μ' = μ ∧ h' = J d
  swap : ∀ {μ : Mem} {d : Array α} {i j : Nat}, μ0.Le μ → V d → i < n → j < n → SpecH Try.prog sf (.int .i64 i :: .int .i64 j :: sb) μ (J d) fun v μ' h' => v = .tuple #[] ∧ μ' = μ ∧ h' = J (swp d i j)
section
variable {α : Type} [Inhabited α] {lf sf : FuncId} {lb sb : List Value} {n : Nat} {lt : α → α → Bool} {μ0 : Mem} {J : Array α → Mem} {V : Array α → Prop} {μ : Mem} {d : Array α}
theorem insertionSortF_spec (H : SortBy lf sf lb sb n lt μ0 J V) {a b : Nat} (hle : μ0.Le μ) (hV : V d) (ha : a ≤ b) (hb : b ≤ n) :
    SpecH Try.prog 191 [fdata lf sf lb sb, .int .i64 a, .int .i64 b] μ (J d) fun v μ' h' => v = .tuple #[] ∧ μ' = μ ∧ h' = J (insertionSort lt d a b) ∧ V (insertionSort lt d a b) := by
  have hn := H.max
  refine SpecH.mk [] Try.func191 (by kernel_rfl) ?_
  intro r1
  rw [insertionSort]
  generalize hD : insOuter lt a b (a + 1) d = D
  refine num_eq (x := ((a + 1 : Nat) : Int)) (by rw [wrap64 (by omega) (by omega)]; omega) ?_
  refine loop_intro (fun p : Nat × Array α => a + 1 ≤ p.1 ∧ p.1 ≤ max b (a + 1) ∧ V p.2 ∧ insOuter lt a b p.1 p.2 = D)
    (fun (i, d) => ⟨[(1, .val (.int .i64 a)), (2, .val (.int .i64 b)), (3, .loc 0 r1 0), (6, .val (.int .i64 i))], fblk r1 lf sf lb sb, 1, μ, J d⟩) (fun p => b - p.1)
    (a + 1, d) ⟨by omega, by omega, hV, hD⟩ (fun (_, _) => ⟨rfl, rfl⟩) ⟨⟨rfl, rfl, rfl, rfl, trivial⟩, ⟨rfl, trivial⟩, rfl, rfl⟩ ?_
  rintro ⟨i, d1⟩ ⟨hi1, hi2, hs, hJ⟩
  dsimp only at hi1 hi2 hs hJ
  rw [insOuter] at hJ
  refine ifd (fun h => ?_) (fun h => ?_)
  · rw [if_pos (by omega)] at hJ
    refine loop_intro (fun p : Nat × Array α => p.1 < n ∧ V p.2 ∧ insInner lt a p.1 p.2 = insInner lt a i d1)
      (fun (j, d) => ⟨[(1, .val (.int .i64 a)), (2, .val (.int .i64 b)), (3, .loc 0 r1 0), (6, .val (.int .i64 i)), (7, .val (.int .i64 j))], fblk r1 lf sf lb sb, 1, μ, J d⟩) (fun p => p.1)
      (i, d1) ⟨by omega, hs, rfl⟩ (fun (_, _) => ⟨rfl, rfl⟩) ⟨⟨rfl, rfl, rfl, rfl, rfl, trivial⟩, ⟨rfl, trivial⟩, rfl, rfl⟩ ?_
    rintro ⟨j, d2⟩ ⟨hj, hs2, hJ2⟩
    dsimp only at hj hs2 hJ2
    refine ifd (fun hja => ?_) (fun hja => ?_)
    · obtain ⟨j, rfl⟩ : ∃ k, j = k + 1 := ⟨j - 1, by omega⟩
      rw [insInner] at hJ2
      refine num_eq (x := ((j : Nat) : Int)) (by rw [wrap64 (by omega) (by omega)]; omega) ?_
      refine call_own (H.less hle hs2 (i := j + 1) (j := j) (by omega) (by omega)) fun v μ' h' hle' hap hR => ?_
      obtain ⟨rfl, e2, rfl⟩ := hR
      obtain rfl := e2.symm
      clear hle' hap
      have g : decide (j + 1 > a) = true := decide_eq_true (by omega)
      refine if_intro (fun hl => ?_) (fun hl => ?_)
      · rw [g, hl, Bool.and_self, if_pos rfl] at hJ2
        refine num_eq (x := ((j : Nat) : Int)) (by rw [wrap64 (by omega) (by omega)]; omega) ?_
        refine call_own (H.swap hle hs2 (i := j + 1) (j := j) (by omega) (by omega)) fun v μ' h' hle' hap hR => ?_
        obtain ⟨rfl, e2, rfl⟩ := hR
        obtain rfl := e2.symm
        clear hle' hap
        refine num_eq (x := ((j : Nat) : Int)) (by rw [wrap64 (by omega) (by omega)]; omega) ?_
        exact ⟨(j, swp d2 (j + 1) j), ⟨by dsimp only; omega, H.sw hs2 (by omega) (by omega), hJ2⟩, by dsimp only; omega, ⟨⟨rfl, rfl, rfl, rfl, rfl, trivial⟩, ⟨rfl, trivial⟩, rfl, rfl⟩⟩
      · rw [hl, Bool.and_false, if_neg (by simp)] at hJ2
        exact num64 (by omega) (by omega) ⟨(i + 1, d2), ⟨by dsimp only; omega, by dsimp only; omega, hs2, by dsimp only; rw [hJ2]; exact hJ⟩, by dsimp only; omega, ⟨⟨rfl, rfl, rfl, rfl, trivial⟩, ⟨rfl, trivial⟩, rfl, rfl⟩⟩
    · have hJ3 : insInner lt a j d2 = d2 := by
        cases j with
        | zero => rfl
        | succ j => rw [insInner, if_neg]; simp; omega
      rw [hJ3] at hJ2
      exact num64 (by omega) (by omega) ⟨(i + 1, d2), ⟨by dsimp only; omega, by dsimp only; omega, hs2, by dsimp only; rw [hJ2]; exact hJ⟩, by dsimp only; omega, ⟨⟨rfl, rfl, rfl, rfl, trivial⟩, ⟨rfl, trivial⟩, rfl, rfl⟩⟩
  · rw [if_neg (by omega)] at hJ
    subst hJ
    exact ret_plain ⟨rfl, rfl, rfl, hs⟩
theorem reverseRangeF_spec (H : SortBy lf sf lb sb n lt μ0 J V) {a b : Nat} (hle : μ0.Le μ) (hV : V d) (hb1 : 1 ≤ b) (ha : a ≤ b) (hb : b ≤ n) :
    SpecH Try.prog 205 [fdata lf sf lb sb, .int .i64 a, .int .i64 b] μ (J d) fun v μ' h' => v = .tuple #[] ∧ μ' = μ ∧ h' = J (reverseRange d a b) ∧ V (reverseRange d a b) := by
  have hn := H.max
  refine SpecH.mk [] Try.func205 (by kernel_rfl) ?_
  intro r1
  rw [reverseRange]
  generalize hD : reverseLoop a (b - 1) d = D
  refine num_eq (x := ((b - 1 : Nat) : Int)) (by rw [wrap64 (by omega) (by omega)]; omega) ?_
  refine loop_intro (fun p : Nat × Nat × Array α => p.2.1 < n ∧ p.1 ≤ n ∧ V p.2.2 ∧ reverseLoop p.1 p.2.1 p.2.2 = D)
    (fun (i, j, d) => ⟨[(3, .loc 0 r1 0), (6, .val (.int .i64 i)), (7, .val (.int .i64 j))], fblk r1 lf sf lb sb, 1, μ, J d⟩) (fun p => p.2.1)
    (a, b - 1, d) ⟨by dsimp only; omega, by dsimp only; omega, hV, hD⟩ (fun (_, _, _) => ⟨rfl, rfl⟩) ⟨⟨rfl, rfl, rfl, trivial⟩, ⟨rfl, trivial⟩, rfl, rfl⟩ ?_
  rintro ⟨i, j, d1⟩ ⟨hj, hi, hs, hJ⟩
  dsimp only at hj hi hs hJ
  rw [reverseLoop] at hJ
  refine ifd (fun h => ?_) (fun h => ?_)
  · rw [if_pos (by omega)] at hJ
    refine call_own (H.swap hle hs (i := i) (j := j) (by omega) (by omega)) fun v μ' h' hle' hap hR => ?_
    obtain ⟨rfl, e2, rfl⟩ := hR
    obtain rfl := e2.symm
    clear hle' hap
    refine num_eq (x := ((i + 1 : Nat) : Int)) (by rw [wrap64 (by omega) (by omega)]; omega) ?_
    refine num_eq (x := ((j - 1 : Nat) : Int)) (by rw [wrap64 (by omega) (by omega)]; omega) ?_
    exact ⟨(i + 1, j - 1, swp d1 i j), ⟨by dsimp only; omega, by dsimp only; omega, H.sw hs (by omega) (by omega), hJ⟩, by dsimp only; omega, ⟨⟨rfl, rfl, rfl, trivial⟩, ⟨rfl, trivial⟩, rfl, rfl⟩⟩
  · rw [if_neg (by omega)] at hJ
    subst hJ
    exact ret_plain ⟨rfl, rfl, rfl, hs⟩
theorem siftDownF_spec (H : SortBy lf sf lb sb n lt μ0 J V) {lo hi first : Nat} (hle : μ0.Le μ) (hV : V d) (hb : first + hi ≤ n) (hl : lo ≤ n) :
    SpecH Try.prog 222 [fdata lf sf lb sb, .int .i64 lo, .int .i64 hi, .int .i64 first] μ (J d) fun v μ' h' => v = .tuple #[] ∧ μ' = μ ∧ h' = J (siftDown lt hi first lo d) ∧ V (siftDown lt hi first lo d) := by
  have hn := H.max
  refine SpecH.mk [] Try.func222 (by kernel_rfl) ?_
  intro r1
  generalize hD : siftDown lt hi first lo d = D
  refine loop_intro (fun p : Nat × Array α => p.1 ≤ n ∧ V p.2 ∧ siftDown lt hi first p.1 p.2 = D)
    (fun (i, d) => ⟨[(2, .val (.int .i64 hi)), (3, .val (.int .i64 first)), (4, .loc 0 r1 0), (8, .val (.int .i64 i))], fblk r1 lf sf lb sb, 1, μ, J d⟩) (fun p => hi - p.1)
    (lo, d) ⟨hl, hV, hD⟩ (fun (_, _) => ⟨rfl, rfl⟩) ⟨⟨rfl, rfl, rfl, rfl, trivial⟩, ⟨rfl, trivial⟩, rfl, rfl⟩ ?_
  rintro ⟨i, d1⟩ ⟨hi1, hs, hJ⟩
  dsimp only at hi1 hs hJ
  rw [siftDown] at hJ
  refine num_eq (x := ((2 * i : Nat) : Int)) (by rw [wrap64 (by omega) (by omega)]; omega) ?_
  refine num_eq (x := ((2 * i + 1 : Nat) : Int)) (by rw [wrap64 (by omega) (by omega)]; omega) ?_
  refine ifd (fun h => ?_) (fun h => ?_)
  · rw [dif_pos (by omega)] at hJ
    subst hJ
    exact ret_plain ⟨rfl, rfl, rfl, hs⟩
  rw [dif_neg (by omega)] at hJ
  refine num_eq (x := ((2 * i + 1 + 1 : Nat) : Int)) (by rw [wrap64 (by omega) (by omega)]; omega) ?_
  refine ifd (fun h2 => ?_) (fun h2 => ?_)
  · refine num_eq (x := ((first + (2 * i + 1) : Nat) : Int)) (by rw [wrap64 (by omega) (by omega)]; omega) ?_
    refine num_eq (x := ((first + (2 * i + 1) : Nat) : Int)) (by rw [wrap64 (by omega) (by omega)]; omega) ?_
    refine num_eq (x := ((first + (2 * i + 1) + 1 : Nat) : Int)) (by rw [wrap64 (by omega) (by omega)]; omega) ?_
    refine call_own (H.less hle hs (i := first + (2 * i + 1)) (j := first + (2 * i + 1) + 1) (by omega) (by omega)) fun v μ' h' hle' hap hR => ?_
    obtain ⟨rfl, e2, rfl⟩ := hR
    obtain rfl := e2.symm
    clear hle' hap
    have g : decide (2 * i + 1 + 1 < hi) = true := decide_eq_true (by omega)
    refine if_intro (fun hl => ?_) (fun hl => ?_)
    · rw [g, hl, Bool.and_self, if_pos rfl] at hJ
      refine num_eq (x := ((2 * i + 2 : Nat) : Int)) (by rw [wrap64 (by omega) (by omega)]; omega) ?_
      refine num_eq (x := ((first + i : Nat) : Int)) (by rw [wrap64 (by omega) (by omega)]; omega) ?_
      refine num_eq (x := ((first + (2 * i + 2) : Nat) : Int)) (by rw [wrap64 (by omega) (by omega)]; omega) ?_
      refine call_own (H.less hle hs (i := first + i) (j := first + (2 * i + 2)) (by omega) (by omega)) fun v μ' h' hle' hap hR => ?_
      obtain ⟨rfl, e2, rfl⟩ := hR
      obtain rfl := e2.symm
      clear hle' hap
      refine if_intro (fun hl => ?_) (fun hl => ?_)
      · rw [if_pos (by simpa using hl)] at hJ
        subst hJ
        exact ret_plain ⟨rfl, rfl, rfl, hs⟩
      · rw [if_neg (by simpa using hl)] at hJ
        try rw [dif_pos (by omega)] at hJ
        refine num_eq (x := ((first + i : Nat) : Int)) (by rw [wrap64 (by omega) (by omega)]; omega) ?_
        refine num_eq (x := ((first + (2 * i + 2) : Nat) : Int)) (by rw [wrap64 (by omega) (by omega)]; omega) ?_
        refine call_own (H.swap hle hs (i := first + i) (j := first + (2 * i + 2)) (by omega) (by omega)) fun v μ' h' hle' hap hR => ?_
        obtain ⟨rfl, e2, rfl⟩ := hR
        obtain rfl := e2.symm
        clear hle' hap
        exact ⟨(2 * i + 2, swp d1 (first + i) (first + (2 * i + 2))), ⟨by dsimp only; omega, H.sw hs (by omega) (by omega), hJ⟩, by dsimp only; omega, ⟨⟨rfl, rfl, rfl, rfl, trivial⟩, ⟨rfl, trivial⟩, rfl, rfl⟩⟩
    · rw [hl, Bool.and_false, if_neg (by simp)] at hJ
      refine num_eq (x := ((first + i : Nat) : Int)) (by rw [wrap64 (by omega) (by omega)]; omega) ?_
      refine num_eq (x := ((first + (2 * i + 1) : Nat) : Int)) (by rw [wrap64 (by omega) (by omega)]; omega) ?_
      refine call_own (H.less hle hs (i := first + i) (j := first + (2 * i + 1)) (by omega) (by omega)) fun v μ' h' hle' hap hR => ?_
      obtain ⟨rfl, e2, rfl⟩ := hR
      obtain rfl := e2.symm
      clear hle' hap
      refine if_intro (fun hl => ?_) (fun hl => ?_)
      · rw [if_pos (by simpa using hl)] at hJ
        subst hJ
        exact ret_plain ⟨rfl, rfl, rfl, hs⟩
      · rw [if_neg (by simpa using hl)] at hJ
        try rw [dif_pos (by omega)] at hJ
        refine num_eq (x := ((first + i : Nat) : Int)) (by rw [wrap64 (by omega) (by omega)]; omega) ?_
        refine num_eq (x := ((first + (2 * i + 1) : Nat) : Int)) (by rw [wrap64 (by omega) (by omega)]; omega) ?_
        refine call_own (H.swap hle hs (i := first + i) (j := first + (2 * i + 1)) (by omega) (by omega)) fun v μ' h' hle' hap hR => ?_
        obtain ⟨rfl, e2, rfl⟩ := hR
        obtain rfl := e2.symm
        clear hle' hap
        exact ⟨(2 * i + 1, swp d1 (first + i) (first + (2 * i + 1))), ⟨by dsimp only; omega, H.sw hs (by omega) (by omega), hJ⟩, by dsimp only; omega, ⟨⟨rfl, rfl, rfl, rfl, trivial⟩, ⟨rfl, trivial⟩, rfl, rfl⟩⟩
  · have g : decide (2 * i + 1 + 1 < hi) = false := decide_eq_false (by omega)
    rw [g, Bool.false_and, if_neg (by simp)] at hJ
    refine num_eq (x := ((first + i : Nat) : Int)) (by rw [wrap64 (by omega) (by omega)]; omega) ?_
    refine num_eq (x := ((first + (2 * i + 1) : Nat) : Int)) (by rw [wrap64 (by omega) (by omega)]; omega) ?_
    refine call_own (H.less hle hs (i := first + i) (j := first + (2 * i + 1)) (by omega) (by omega)) fun v μ' h' hle' hap hR => ?_
    obtain ⟨rfl, e2, rfl⟩ := hR
    obtain rfl := e2.symm
    clear hle' hap
    refine if_intro (fun hl => ?_) (fun hl => ?_)
    · rw [if_pos (by simpa using hl)] at hJ
      subst hJ
      exact ret_plain ⟨rfl, rfl, rfl, hs⟩
    · rw [if_neg (by simpa using hl)] at hJ
      try rw [dif_pos (by omega)] at hJ
      refine num_eq (x := ((first + i : Nat) : Int)) (by rw [wrap64 (by omega) (by omega)]; omega) ?_
      refine num_eq (x := ((first + (2 * i + 1) : Nat) : Int)) (by rw [wrap64 (by omega) (by omega)]; omega) ?_
      refine call_own (H.swap hle hs (i := first + i) (j := first + (2 * i + 1)) (by omega) (by omega)) fun v μ' h' hle' hap hR => ?_
      obtain ⟨rfl, e2, rfl⟩ := hR
      obtain rfl := e2.symm
      clear hle' hap
      exact ⟨(2 * i + 1, swp d1 (first + i) (first + (2 * i + 1))), ⟨by dsimp only; omega, H.sw hs (by omega) (by omega), hJ⟩, by dsimp only; omega, ⟨⟨rfl, rfl, rfl, rfl, trivial⟩, ⟨rfl, trivial⟩, rfl, rfl⟩⟩
theorem heapSortF_spec (H : SortBy lf sf lb sb n lt μ0 J V) {a b : Nat} (hle : μ0.Le μ) (hV : V d) (ha : a < b) (hb : b ≤ n) :
    SpecH Try.prog 202 [fdata lf sf lb sb, .int .i64 a, .int .i64 b] μ (J d) fun v μ' h' => v = .tuple #[] ∧ μ' = μ ∧ h' = J (heapSort lt d a b) ∧ V (heapSort lt d a b) := by
  have hn := H.max
  refine SpecH.mk [] Try.func202 (by kernel_rfl) ?_
  intro r1
  rw [heapSort]
  generalize hD1 : heapBuild lt (b - a) a ((b - a - 1) / 2 + 1) d = D1
  generalize hD : heapPop lt a (b - a) D1 = D
  refine num_eq (x := ((b - a : Nat) : Int)) (by rw [wrap64 (by omega) (by omega)]; omega) ?_
  refine num_eq (x := ((b - a - 1 : Nat) : Int)) (by rw [wrap64 (by omega) (by omega)]; omega) ?_
  refine need_intro (by decide) ?_
  refine num_eq (x := (((b - a - 1) / 2 + 1 : Nat) : Int) - 1) (by rw [Int.tdiv_eq_ediv_of_nonneg (by omega), wrap64 (by omega) (by omega)]; omega) ?_
  refine loop_intro (fun p : Nat × Array α => p.1 ≤ b - a ∧ V p.2 ∧ heapBuild lt (b - a) a p.1 p.2 = D1)
    (fun (k, d) => ⟨[(3, .loc 0 r1 0), (6, .val (.int .i64 a)), (7, .val (.int .i64 0)), (8, .val (.int .i64 (b - a : Nat))), (9, .val (.int .i64 ((k : Int) - 1)))], fblk r1 lf sf lb sb, 1, μ, J d⟩) (fun p => p.1)
    ((b - a - 1) / 2 + 1, d) ⟨by dsimp only; omega, hV, hD1⟩ (fun (_, _) => ⟨rfl, rfl⟩) ⟨⟨rfl, rfl, rfl, rfl, rfl, trivial⟩, ⟨rfl, trivial⟩, rfl, rfl⟩ ?_
  rintro ⟨k, d1⟩ ⟨hk, hs, hJ⟩
  dsimp only at hk hs hJ
  refine ifd (fun h => ?_) (fun h => ?_)
  · obtain ⟨k, rfl⟩ : ∃ m, k = m + 1 := ⟨k - 1, by omega⟩
    rw [heapBuild] at hJ
    have e : (((k + 1 : Nat) : Int) - 1) = (k : Nat) := by omega
    rw [e]
    refine call_own (siftDownF_spec H (lo := k) (hi := b - a) (first := a) hle hs (by omega) (by omega)) fun v μ' h' hle' hap hR => ?_
    obtain ⟨rfl, e2, rfl, hs2⟩ := hR
    obtain rfl := e2.symm
    refine num_eq (x := (k : Int) - 1) (by rw [wrap64 (by omega) (by omega)]) ?_
    exact ⟨(k, siftDown lt (b - a) a k d1), ⟨by dsimp only; omega, hs2, hJ⟩, by dsimp only; omega, ⟨⟨rfl, rfl, rfl, rfl, rfl, trivial⟩, ⟨rfl, trivial⟩, rfl, rfl⟩⟩
  obtain rfl : k = 0 := by omega
  have hJ : d1 = D1 := hJ
  subst hJ
  refine num_eq (x := ((b - a : Nat) : Int) - 1) (by rw [wrap64 (by omega) (by omega)]) ?_
  refine loop_intro (fun p : Nat × Array α => p.1 ≤ b - a ∧ V p.2 ∧ heapPop lt a p.1 p.2 = D)
    (fun (k, d) => ⟨[(3, .loc 0 r1 0), (6, .val (.int .i64 a)), (7, .val (.int .i64 0)), (10, .val (.int .i64 ((k : Int) - 1)))], fblk r1 lf sf lb sb, 1, μ, J d⟩) (fun p => p.1)
    (b - a, d1) ⟨by dsimp only; omega, hs, hD⟩ (fun (_, _) => ⟨rfl, rfl⟩) ⟨⟨rfl, rfl, rfl, rfl, trivial⟩, ⟨rfl, trivial⟩, rfl, rfl⟩ ?_
  rintro ⟨k, d2⟩ ⟨hk, hs2, hJ⟩
  dsimp only at hk hs2 hJ
  refine ifd (fun h => ?_) (fun h => ?_)
  · obtain ⟨k, rfl⟩ : ∃ m, k = m + 1 := ⟨k - 1, by omega⟩
    rw [heapPop] at hJ
    have e : (((k + 1 : Nat) : Int) - 1) = (k : Nat) := by omega
    rw [e]
    refine num_eq (x := ((a + k : Nat) : Int)) (by rw [wrap64 (by omega) (by omega)]; omega) ?_
    refine call_own (H.swap hle hs2 (i := a) (j := a + k) (by omega) (by omega)) fun v μ' h' hle' hap hR => ?_
    obtain ⟨rfl, e2, rfl⟩ := hR
    obtain rfl := e2.symm
    clear hle' hap
    refine call_own (siftDownF_spec H (d := swp d2 a (a + k)) (lo := 0) (hi := k) (first := a) hle (H.sw hs2 (by omega) (by omega)) (by omega) (by omega)) fun v μ' h' hle' hap hR => ?_
    obtain ⟨rfl, e2, rfl, hs3⟩ := hR
    obtain rfl := e2.symm
    refine num_eq (x := (k : Int) - 1) (by rw [wrap64 (by omega) (by omega)]) ?_
    exact ⟨(k, _), ⟨by dsimp only; omega, hs3, hJ⟩, by dsimp only; omega, ⟨⟨rfl, rfl, rfl, rfl, trivial⟩, ⟨rfl, trivial⟩, rfl, rfl⟩⟩
  obtain rfl : k = 0 := by omega
  have hJ : d2 = D := hJ
  subst hJ
  exact ret_plain ⟨rfl, rfl, rfl, hs2⟩
end
end Go.Vx

/- Contracts: the choice of a pivot, by the owner's functions. -/
namespace Go.Vx
open Go.Proofs Classical
open Go.Sort
theorem parts_set {g : Mem} {r : Nat} {o : Obj} (h : g r = none) : Parts (g.set r o) (Mem.nil.set r o) g := fun b => by
  by_cases e : b = r
  · subst e; exact .inl ⟨by rw [Mem.set_at, Mem.set_at], h⟩
  · exact .inr ⟨by rw [Mem.set_ne e], by rw [Mem.set_ne e]; rfl⟩
section
variable {α : Type} {J : Array α → Mem} {μ : Mem} {d : Array α} {rs : Nat} {s : Int}
/-- A row beside a counter. -/
abbrev JS (J : Array α → Mem) (rs : Nat) (s : Int) (d : Array α) : Mem := (J d).set rs (.cells #[.int .i64 s] 3 (0, 0))
theorem rdC {K : List Value → Prop} (h : K [.int .i64 s]) : extVC μ (JS J rs s d) ⟨rs, 0, none⟩ 1 K := own_intro _ rfl (box_at (Mem.set_at _ _ _)) h
theorem wrC {v : Int} {K : Mem → Prop} (h : K (JS J rs v d)) : stoVC (JS J rs s d) ⟨rs, 0, none⟩ [.int .i64 v] K := by
  refine sto_intro [.int .i64 s] 3 (Mem.set_at _ _ _) rfl (Nat.le_refl _) ?_
  have e : Mem.set (JS J rs s d) rs (.cells #[.int .i64 v] 3 (0, 0)) = JS J rs v d := by rw [Mem.set_set]
  show K (Mem.set (JS J rs s d) rs (.cells #[.int .i64 v] 3 (0, 0)))
  rw [e]; exact h
end
section
variable {α : Type} [Inhabited α] {lf sf : FuncId} {lb sb : List Value} {n : Nat} {lt : α → α → Bool} {μ0 : Mem} {J : Array α → Mem} {V : Array α → Prop} {μ : Mem} {d : Array α} {rs : Nat} {s : Int}
/-- The same beside a block of one's own. -/
theorem SortBy.beside (H : SortBy lf sf lb sb n lt μ0 J V) (o : Obj) (h : ∀ d, V d → J d rs = none) : SortBy lf sf lb sb n lt μ0 (fun d => (J d).set rs o) V where
  max := H.max
  size := H.size
  sw := H.sw
  dom hV hV' hb := by
    simp only [Mem.set_get] at hb ⊢
    split at hb
    · cases hb
    · rename_i e; rw [if_neg e]; exact H.dom hV hV' hb
  less hle hV hi hj := (SpecH.frame (parts_set (h _ hV)).symm (H.less hle hV hi hj)).weaken fun v μ' h' _ _ ⟨g, ⟨e1, e2, e3⟩, p⟩ => ⟨e1, e2, by rw [e3] at p; exact p.eq (parts_set (h _ hV)).symm⟩
  swap hle hV hi hj := (SpecH.frame (parts_set (h _ hV)).symm (H.swap hle hV hi hj)).weaken fun v μ' h' _ _ ⟨g, ⟨e1, e2, e3⟩, p⟩ => ⟨e1, e2, by rw [e3] at p; exact p.eq (parts_set (h _ (H.sw hV hi hj))).symm⟩
theorem order2F_spec (H : ∀ s, SortBy lf sf lb sb n lt μ0 (JS J rs s) V) {a b : Nat} (hle : μ0.Le μ) (hV : V d) (ha : a < n) (hb : b < n) :
    SpecH Try.prog 232 [fdata lf sf lb sb, .int .i64 a, .int .i64 b, .pointer (some ⟨rs, 0, none⟩)] μ (JS J rs s d) fun v μ' h' =>
      ∃ x y : Nat, ((x = a ∧ y = b) ∨ (x = b ∧ y = a)) ∧ v = .tuple #[.int .i64 x, .int .i64 y] ∧ μ' = μ ∧ ∃ s', h' = JS J rs s' d := by
  refine SpecH.mk [] Try.func232 (by kernel_rfl) ?_
  intro r1
  refine call_own ((H s).less hle hV (i := b) (j := a) hb ha) fun v μ' h' hle' hap hR => ?_
  obtain ⟨rfl, e2, rfl⟩ := hR
  obtain rfl := e2.symm
  refine if_intro (fun hl => ?_) (fun hl => ?_)
  · refine rdC ?_
    refine num_intro fun x _ => ?_
    refine wrC ?_
    exact ret_plain ⟨b, a, .inr ⟨rfl, rfl⟩, rfl, rfl, _, rfl⟩
  · exact ret_plain ⟨a, b, .inl ⟨rfl, rfl⟩, rfl, rfl, _, rfl⟩
theorem medianF_spec (H : ∀ s, SortBy lf sf lb sb n lt μ0 (JS J rs s) V) {a b c : Nat} (hle : μ0.Le μ) (hV : V d) (ha : a < n) (hb : b < n) (hc : c < n) :
    SpecH Try.prog 226 [fdata lf sf lb sb, .int .i64 a, .int .i64 b, .int .i64 c, .pointer (some ⟨rs, 0, none⟩)] μ (JS J rs s d) fun v μ' h' =>
      ∃ x : Nat, (x = a ∨ x = b ∨ x = c) ∧ v = .int .i64 x ∧ μ' = μ ∧ ∃ s', h' = JS J rs s' d := by
  refine SpecH.mk [] Try.func226 (by kernel_rfl) ?_
  intro r1
  refine call_own (order2F_spec H hle hV ha hb) fun v μ' h' hle' hap hR => ?_
  obtain ⟨x1, y1, o1, rfl, e1, s1, rfl⟩ := hR
  obtain rfl := e1.symm
  refine call_own (order2F_spec H (a := y1) (b := c) hle hV (by omega) hc) fun v μ' h' hle' hap hR => ?_
  obtain ⟨x2, y2, o2, rfl, e2, s2, rfl⟩ := hR
  obtain rfl := e2.symm
  refine call_own (order2F_spec H (a := x1) (b := x2) hle hV (by omega) (by omega)) fun v μ' h' hle' hap hR => ?_
  obtain ⟨x3, y3, o3, rfl, e3, s3, rfl⟩ := hR
  obtain rfl := e3.symm
  exact ret_plain ⟨y3, by omega, rfl, rfl, _, rfl⟩
theorem medianAdjacentF_spec (H : ∀ s, SortBy lf sf lb sb n lt μ0 (JS J rs s) V) {a : Nat} (hle : μ0.Le μ) (hV : V d) (ha : 1 ≤ a) (hb : a + 1 < n) :
    SpecH Try.prog 225 [fdata lf sf lb sb, .int .i64 a, .pointer (some ⟨rs, 0, none⟩)] μ (JS J rs s d) fun v μ' h' =>
      ∃ x : Nat, (x + 1 = a ∨ x = a ∨ x = a + 1) ∧ v = .int .i64 x ∧ μ' = μ ∧ ∃ s', h' = JS J rs s' d := by
  have hn := (H 0).max
  refine SpecH.mk [] Try.func225 (by kernel_rfl) ?_
  intro r1
  refine num_eq (x := ((a - 1 : Nat) : Int)) (by rw [wrap64 (by omega) (by omega)]; omega) ?_
  refine num_eq (x := ((a + 1 : Nat) : Int)) (by rw [wrap64 (by omega) (by omega)]; omega) ?_
  refine call_own (medianF_spec H (a := a - 1) (b := a) (c := a + 1) hle hV (by omega) (by omega) (by omega)) fun v μ' h' hle' hap hR => ?_
  obtain ⟨x1, o1, rfl, e1, s1, rfl⟩ := hR
  obtain rfl := e1.symm
  exact ret_plain ⟨x1, by omega, rfl, rfl, _, rfl⟩
set_option maxHeartbeats 4000000 in
theorem choosePivotF_spec (H : SortBy lf sf lb sb n lt μ0 J V) {a b : Nat} (hle : μ0.Le μ) (hV : V d) (ha : a < b) (hb : b ≤ n) :
    SpecH Try.prog 204 [fdata lf sf lb sb, .int .i64 a, .int .i64 b] μ (J d) fun v μ' h' =>
      ∃ p k : Nat, a ≤ p ∧ p < b ∧ k ≤ 2 ∧ v = .tuple #[.int .i64 p, .int .i64 k] ∧ h' = J d := by
  have hn := H.max
  refine SpecH.mk [9] Try.func204 (by kernel_rfl) ?_
  intro r1
  refine num_eq (x := ((b - a : Nat) : Int)) (by rw [wrap64 (by omega) (by omega)]; omega) ?_
  intro rs hm ho
  have hdom : ∀ d', V d' → J d' rs = none := fun d' hV' => H.dom hV hV' ho
  have H2 : ∀ s, SortBy lf sf lb sb n lt μ0 (JS J rs s) V := fun s => H.beside _ hdom
  have hp : ∀ s, Parts (JS J rs s d) (Mem.nil.set rs (.cells #[.int .i64 s] 3 (0, 0))) (J d) := fun s => parts_set (hdom d hV)
  generalize hH : Mem.set (J d) rs _ = H1
  obtain rfl : H1 = JS J rs 0 d := hH.symm
  clear hH hm
  refine need_intro (by decide) ?_
  refine num_eq (x := (((b - a) / 4 : Nat) : Int)) (by rw [Int.tdiv_eq_ediv_of_nonneg (by omega), wrap64 (by omega) (by omega)]; omega) ?_
  refine num_eq (x := (((b - a) / 4 * 1 : Nat) : Int)) (by rw [wrap64 (by omega) (by omega)]; omega) ?_
  refine num_eq (x := ((a + (b - a) / 4 * 1 : Nat) : Int)) (by rw [wrap64 (by omega) (by omega)]; omega) ?_
  refine need_intro (by decide) ?_
  refine num_eq (x := (((b - a) / 4 : Nat) : Int)) (by rw [Int.tdiv_eq_ediv_of_nonneg (by omega), wrap64 (by omega) (by omega)]; omega) ?_
  refine num_eq (x := (((b - a) / 4 * 2 : Nat) : Int)) (by rw [wrap64 (by omega) (by omega)]; omega) ?_
  refine num_eq (x := ((a + (b - a) / 4 * 2 : Nat) : Int)) (by rw [wrap64 (by omega) (by omega)]; omega) ?_
  refine need_intro (by decide) ?_
  refine num_eq (x := (((b - a) / 4 : Nat) : Int)) (by rw [Int.tdiv_eq_ediv_of_nonneg (by omega), wrap64 (by omega) (by omega)]; omega) ?_
  refine num_eq (x := (((b - a) / 4 * 3 : Nat) : Int)) (by rw [wrap64 (by omega) (by omega)]; omega) ?_
  refine num_eq (x := ((a + (b - a) / 4 * 3 : Nat) : Int)) (by rw [wrap64 (by omega) (by omega)]; omega) ?_
  refine ifd (fun h8 => ?_) (fun h8 => ?_)
  · refine ifd (fun h50 => ?_) (fun h50 => ?_)
    · refine call_own (medianAdjacentF_spec H2 (a := a + (b - a) / 4 * 1) hle hV (by omega) (by omega)) fun v μ' h' hle' hap hR => ?_
      obtain ⟨x1, o1, rfl, e1, s1, rfl⟩ := hR
      obtain rfl := e1.symm
      refine call_own (medianAdjacentF_spec H2 (a := a + (b - a) / 4 * 2) hle hV (by omega) (by omega)) fun v μ' h' hle' hap hR => ?_
      obtain ⟨x2, o2, rfl, e1, s2, rfl⟩ := hR
      obtain rfl := e1.symm
      refine call_own (medianAdjacentF_spec H2 (a := a + (b - a) / 4 * 3) hle hV (by omega) (by omega)) fun v μ' h' hle' hap hR => ?_
      obtain ⟨x3, o3, rfl, e1, s3, rfl⟩ := hR
      obtain rfl := e1.symm
      refine call_own (medianF_spec H2 (a := x1) (b := x2) (c := x3) hle hV (by omega) (by omega) (by omega)) fun v μ' h' hle' hap hR => ?_
      obtain ⟨x4, o4, rfl, e1, s4, rfl⟩ := hR
      obtain rfl := e1.symm
      refine rdC ?_
      refine ifd (fun h1 => ?_) (fun h1 => ?_)
      · exact ret_own _ _ (hp _) ⟨x4, 1, by omega, by omega, by omega, rfl, rfl⟩
      refine ifd (fun h1 => ?_) (fun h1 => ?_)
      · exact ret_own _ _ (hp _) ⟨x4, 2, by omega, by omega, by omega, rfl, rfl⟩
      exact ret_own _ _ (hp _) ⟨x4, 0, by omega, by omega, by omega, rfl, rfl⟩
    · refine call_own (medianF_spec H2 (a := a + (b - a) / 4 * 1) (b := a + (b - a) / 4 * 2) (c := a + (b - a) / 4 * 3) hle hV (by omega) (by omega) (by omega)) fun v μ' h' hle' hap hR => ?_
      obtain ⟨x4, o4, rfl, e1, s4, rfl⟩ := hR
      obtain rfl := e1.symm
      refine rdC ?_
      refine ifd (fun h1 => ?_) (fun h1 => ?_)
      · exact ret_own _ _ (hp _) ⟨x4, 1, by omega, by omega, by omega, rfl, rfl⟩
      refine ifd (fun h1 => ?_) (fun h1 => ?_)
      · exact ret_own _ _ (hp _) ⟨x4, 2, by omega, by omega, by omega, rfl, rfl⟩
      exact ret_own _ _ (hp _) ⟨x4, 0, by omega, by omega, by omega, rfl, rfl⟩
  · refine rdC ?_
    refine ifd (fun h1 => ?_) (fun h1 => ?_)
    · exact ret_own _ _ (hp _) ⟨a + (b - a) / 4 * 2, 1, by omega, by omega, by omega, rfl, rfl⟩
    refine ifd (fun h1 => ?_) (fun h1 => ?_)
    · exact ret_own _ _ (hp _) ⟨a + (b - a) / 4 * 2, 2, by omega, by omega, by omega, rfl, rfl⟩
    exact ret_own _ _ (hp _) ⟨a + (b - a) / 4 * 2, 0, by omega, by omega, by omega, rfl, rfl⟩
end
end Go.Vx

/- Contracts: lengths in bits. -/
namespace Go.Vx
open Go.Proofs Classical
open Go.Sort
theorem bitsLen_shift {x k : Nat} (h : 2 ^ k ≤ x) : bitsLen x = bitsLen (x / 2 ^ k) + k := by
  have hpos : 0 < 2 ^ k := Nat.two_pow_pos k
  apply Nat.le_antisymm
  · rw [bitsLen_le_iff, Nat.pow_add]
    have := lt_two_pow_bitsLen (x / 2 ^ k)
    rw [Nat.div_lt_iff_lt_mul hpos] at this
    exact this
  · have h1 : k < bitsLen x := by
      rcases Nat.lt_or_ge k (bitsLen x) with h2 | h2
      · exact h2
      · have := (bitsLen_le_iff x k).1 h2; omega
    have h3 : bitsLen (x / 2 ^ k) ≤ bitsLen x - k := by
      rw [bitsLen_le_iff, Nat.div_lt_iff_lt_mul hpos, ← Nat.pow_add]
      have : bitsLen x - k + k = bitsLen x := by omega
      rw [this]; exact lt_two_pow_bitsLen x
    omega
section
variable {μ : Mem}
theorem Len64_spec {x : Nat} (hx : x < 18446744073709551616) : Gives Try.prog 201 [.int .u64 x] μ (.int .i64 (bitsLen x)) := by
  obtain ⟨L, hL⟩ : ∃ L, L = bitsLen x := ⟨_, rfl⟩
  rw [← hL]
  refine Spec.mk Try.func201 (by kernel_rfl) ?_
  refine ifd (fun h1 => ?_) (fun h1 => ?_)
  · refine need_intro (by decide) ?_
    refine num_eq (x := ((x / 4294967296 : Nat) : Int)) (by
      show (x : Int).fdiv 4294967296 = _
      rw [Int.fdiv_eq_ediv_of_nonneg _ (by decide)]; rfl) ?_
    have b1 : bitsLen x = bitsLen (x / 4294967296) + 32 := bitsLen_shift (k := 32) (by omega)
    have b2 : x / 4294967296 < 4294967296 := by omega
    generalize x / 4294967296 = y at *
    refine ifd (fun h2 => ?_) (fun h2 => ?_)
    · refine need_intro (by decide) ?_
      refine num_eq (x := ((y / 65536 : Nat) : Int)) (by
        show (y : Int).fdiv 65536 = _
        rw [Int.fdiv_eq_ediv_of_nonneg _ (by decide)]; rfl) ?_
      have b3 : bitsLen y = bitsLen (y / 65536) + 16 := bitsLen_shift (k := 16) (by omega)
      have b4 : y / 65536 < 65536 := by omega
      generalize y / 65536 = z at *
      refine num_eq (x := 32 + 16) (by decide) ?_
      refine ifd (fun h3 => ?_) (fun h3 => ?_)
      · refine need_intro (by decide) ?_
        refine num_eq (x := ((z / 256 : Nat) : Int)) (by
          show (z : Int).fdiv 256 = _
          rw [Int.fdiv_eq_ediv_of_nonneg _ (by decide)]; rfl) ?_
        have b5 : bitsLen z = bitsLen (z / 256) + 8 := bitsLen_shift (k := 8) (by omega)
        have b6 : z / 256 < 256 := by omega
        generalize z / 256 = w at *
        refine num_eq (x := 32 + 16 + 8) (by decide) ?_
        have b7 : bitsLen w ≤ 8 := (bitsLen_le_iff w 8).2 b6
        refine num_eq (x := (w : Int)) (by
          show (w : Int) % 256 = _
          omega) ?_
        refine byte_intro w (UInt8.ofNat (bitsLen w)) rfl ?_ ?_
        · clear b5 b7
          try clear hw
          revert w
          decide +kernel
        refine num_eq (x := (bitsLen w : Int)) (by
          rw [UInt8.toNat_ofNat', Nat.mod_eq_of_lt (by omega), wrap64 (by omega) (by omega)]) ?_
        refine num_eq (x := (L : Int)) (by rw [wrap64 (by omega) (by omega)]; omega) ?_
        exact ret_gives rfl rfl
      · obtain ⟨w, hw⟩ : ∃ w, w = z := ⟨_, rfl⟩
        have b5 : bitsLen z = bitsLen w + 0 := by rw [hw]; rfl
        have b6 : w < 256 := by omega
        rw [← hw]
        have b7 : bitsLen w ≤ 8 := (bitsLen_le_iff w 8).2 b6
        refine num_eq (x := (w : Int)) (by
          show (w : Int) % 256 = _
          omega) ?_
        refine byte_intro w (UInt8.ofNat (bitsLen w)) rfl ?_ ?_
        · clear b5 b7
          try clear hw
          revert w
          decide +kernel
        refine num_eq (x := (bitsLen w : Int)) (by
          rw [UInt8.toNat_ofNat', Nat.mod_eq_of_lt (by omega), wrap64 (by omega) (by omega)]) ?_
        refine num_eq (x := (L : Int)) (by rw [wrap64 (by omega) (by omega)]; omega) ?_
        exact ret_gives rfl rfl
    · obtain ⟨z, hz⟩ : ∃ z, z = y := ⟨_, rfl⟩
      have b3 : bitsLen y = bitsLen z + 0 := by rw [hz]; rfl
      have b4 : z < 65536 := by omega
      rw [← hz]
      refine ifd (fun h3 => ?_) (fun h3 => ?_)
      · refine need_intro (by decide) ?_
        refine num_eq (x := ((z / 256 : Nat) : Int)) (by
          show (z : Int).fdiv 256 = _
          rw [Int.fdiv_eq_ediv_of_nonneg _ (by decide)]; rfl) ?_
        have b5 : bitsLen z = bitsLen (z / 256) + 8 := bitsLen_shift (k := 8) (by omega)
        have b6 : z / 256 < 256 := by omega
        generalize z / 256 = w at *
        refine num_eq (x := 32 + 8) (by decide) ?_
        have b7 : bitsLen w ≤ 8 := (bitsLen_le_iff w 8).2 b6
        refine num_eq (x := (w : Int)) (by
          show (w : Int) % 256 = _
          omega) ?_
        refine byte_intro w (UInt8.ofNat (bitsLen w)) rfl ?_ ?_
        · clear b5 b7
          try clear hw
          revert w
          decide +kernel
        refine num_eq (x := (bitsLen w : Int)) (by
          rw [UInt8.toNat_ofNat', Nat.mod_eq_of_lt (by omega), wrap64 (by omega) (by omega)]) ?_
        refine num_eq (x := (L : Int)) (by rw [wrap64 (by omega) (by omega)]; omega) ?_
        exact ret_gives rfl rfl
      · obtain ⟨w, hw⟩ : ∃ w, w = z := ⟨_, rfl⟩
        have b5 : bitsLen z = bitsLen w + 0 := by rw [hw]; rfl
        have b6 : w < 256 := by omega
        rw [← hw]
        have b7 : bitsLen w ≤ 8 := (bitsLen_le_iff w 8).2 b6
        refine num_eq (x := (w : Int)) (by
          show (w : Int) % 256 = _
          omega) ?_
        refine byte_intro w (UInt8.ofNat (bitsLen w)) rfl ?_ ?_
        · clear b5 b7
          try clear hw
          revert w
          decide +kernel
        refine num_eq (x := (bitsLen w : Int)) (by
          rw [UInt8.toNat_ofNat', Nat.mod_eq_of_lt (by omega), wrap64 (by omega) (by omega)]) ?_
        refine num_eq (x := (L : Int)) (by rw [wrap64 (by omega) (by omega)]; omega) ?_
        exact ret_gives rfl rfl
  · obtain ⟨y, hy⟩ : ∃ y, y = x := ⟨_, rfl⟩
    have b1 : bitsLen x = bitsLen y + 0 := by rw [hy]; rfl
    have b2 : y < 4294967296 := by omega
    rw [← hy]
    refine ifd (fun h2 => ?_) (fun h2 => ?_)
    · refine need_intro (by decide) ?_
      refine num_eq (x := ((y / 65536 : Nat) : Int)) (by
        show (y : Int).fdiv 65536 = _
        rw [Int.fdiv_eq_ediv_of_nonneg _ (by decide)]; rfl) ?_
      have b3 : bitsLen y = bitsLen (y / 65536) + 16 := bitsLen_shift (k := 16) (by omega)
      have b4 : y / 65536 < 65536 := by omega
      generalize y / 65536 = z at *
      refine num_eq (x := 0 + 16) (by decide) ?_
      refine ifd (fun h3 => ?_) (fun h3 => ?_)
      · refine need_intro (by decide) ?_
        refine num_eq (x := ((z / 256 : Nat) : Int)) (by
          show (z : Int).fdiv 256 = _
          rw [Int.fdiv_eq_ediv_of_nonneg _ (by decide)]; rfl) ?_
        have b5 : bitsLen z = bitsLen (z / 256) + 8 := bitsLen_shift (k := 8) (by omega)
        have b6 : z / 256 < 256 := by omega
        generalize z / 256 = w at *
        refine num_eq (x := 0 + 16 + 8) (by decide) ?_
        have b7 : bitsLen w ≤ 8 := (bitsLen_le_iff w 8).2 b6
        refine num_eq (x := (w : Int)) (by
          show (w : Int) % 256 = _
          omega) ?_
        refine byte_intro w (UInt8.ofNat (bitsLen w)) rfl ?_ ?_
        · clear b5 b7
          try clear hw
          revert w
          decide +kernel
        refine num_eq (x := (bitsLen w : Int)) (by
          rw [UInt8.toNat_ofNat', Nat.mod_eq_of_lt (by omega), wrap64 (by omega) (by omega)]) ?_
        refine num_eq (x := (L : Int)) (by rw [wrap64 (by omega) (by omega)]; omega) ?_
        exact ret_gives rfl rfl
      · obtain ⟨w, hw⟩ : ∃ w, w = z := ⟨_, rfl⟩
        have b5 : bitsLen z = bitsLen w + 0 := by rw [hw]; rfl
        have b6 : w < 256 := by omega
        rw [← hw]
        have b7 : bitsLen w ≤ 8 := (bitsLen_le_iff w 8).2 b6
        refine num_eq (x := (w : Int)) (by
          show (w : Int) % 256 = _
          omega) ?_
        refine byte_intro w (UInt8.ofNat (bitsLen w)) rfl ?_ ?_
        · clear b5 b7
          try clear hw
          revert w
          decide +kernel
        refine num_eq (x := (bitsLen w : Int)) (by
          rw [UInt8.toNat_ofNat', Nat.mod_eq_of_lt (by omega), wrap64 (by omega) (by omega)]) ?_
        refine num_eq (x := (L : Int)) (by rw [wrap64 (by omega) (by omega)]; omega) ?_
        exact ret_gives rfl rfl
    · obtain ⟨z, hz⟩ : ∃ z, z = y := ⟨_, rfl⟩
      have b3 : bitsLen y = bitsLen z + 0 := by rw [hz]; rfl
      have b4 : z < 65536 := by omega
      rw [← hz]
      refine ifd (fun h3 => ?_) (fun h3 => ?_)
      · refine need_intro (by decide) ?_
        refine num_eq (x := ((z / 256 : Nat) : Int)) (by
          show (z : Int).fdiv 256 = _
          rw [Int.fdiv_eq_ediv_of_nonneg _ (by decide)]; rfl) ?_
        have b5 : bitsLen z = bitsLen (z / 256) + 8 := bitsLen_shift (k := 8) (by omega)
        have b6 : z / 256 < 256 := by omega
        generalize z / 256 = w at *
        refine num_eq (x := 0 + 8) (by decide) ?_
        have b7 : bitsLen w ≤ 8 := (bitsLen_le_iff w 8).2 b6
        refine num_eq (x := (w : Int)) (by
          show (w : Int) % 256 = _
          omega) ?_
        refine byte_intro w (UInt8.ofNat (bitsLen w)) rfl ?_ ?_
        · clear b5 b7
          try clear hw
          revert w
          decide +kernel
        refine num_eq (x := (bitsLen w : Int)) (by
          rw [UInt8.toNat_ofNat', Nat.mod_eq_of_lt (by omega), wrap64 (by omega) (by omega)]) ?_
        refine num_eq (x := (L : Int)) (by rw [wrap64 (by omega) (by omega)]; omega) ?_
        exact ret_gives rfl rfl
      · obtain ⟨w, hw⟩ : ∃ w, w = z := ⟨_, rfl⟩
        have b5 : bitsLen z = bitsLen w + 0 := by rw [hw]; rfl
        have b6 : w < 256 := by omega
        rw [← hw]
        have b7 : bitsLen w ≤ 8 := (bitsLen_le_iff w 8).2 b6
        refine num_eq (x := (w : Int)) (by
          show (w : Int) % 256 = _
          omega) ?_
        refine byte_intro w (UInt8.ofNat (bitsLen w)) rfl ?_ ?_
        · clear b5 b7
          try clear hw
          revert w
          decide +kernel
        refine num_eq (x := (bitsLen w : Int)) (by
          rw [UInt8.toNat_ofNat', Nat.mod_eq_of_lt (by omega), wrap64 (by omega) (by omega)]) ?_
        refine num_eq (x := (L : Int)) (by rw [wrap64 (by omega) (by omega)]; omega) ?_
        exact ret_gives rfl rfl
theorem Len_spec {x : Nat} (hx : x < 18446744073709551616) : Gives Try.prog 151 [.int .u64 x] μ (.int .i64 (bitsLen x)) := by
  refine Spec.mk Try.func151 (by kernel_rfl) ?_
  refine call_gives (Len64_spec hx) ?_
  exact ret_gives rfl rfl
theorem and_le {x m : Int} (h0 : 0 ≤ m) (h1 : m < 18446744073709551616) : 0 ≤ bits .and .u64 x m ∧ bits .and .u64 x m ≤ m := by
  have e : bits .and .u64 x m = (((BitVec.ofInt 64 x &&& BitVec.ofInt 64 m).toNat : Nat) : Int) % 18446744073709551616 := rfl
  have h2 : (BitVec.ofInt 64 m).toNat = m.toNat := by
    rw [BitVec.toNat_ofInt]
    congr 1
    exact Int.emod_eq_of_lt h0 h1
  have h3 : (BitVec.ofInt 64 x &&& BitVec.ofInt 64 m).toNat ≤ m.toNat := by
    rw [BitVec.toNat_and, h2]
    exact Nat.and_le_right
  rw [e]
  omega
end
end Go.Vx

/- Contracts: patterns broken, by the owner's functions. -/
namespace Go.Vx
open Go.Proofs Classical
open Go.Sort
section
variable {α : Type} {J : Array α → Mem} {μ : Mem} {d : Array α} {rs : Nat} {s : Int}
/-- A row beside a state of the generator. -/
abbrev JX (J : Array α → Mem) (rs : Nat) (s : Int) (d : Array α) : Mem := (J d).set rs (.cells #[.int .u64 s] 241 (0, 0))
theorem rdX' {K : List Value → Prop} (h : K [.int .u64 s]) : extVC μ (JX J rs s d) ⟨rs, 0, none⟩ 1 K := own_intro _ rfl (box_at (Mem.set_at _ _ _)) h
theorem wrX' {v : Int} {K : Mem → Prop} (h : K (JX J rs v d)) : stoVC (JX J rs s d) ⟨rs, 0, none⟩ [.int .u64 v] K := by
  refine sto_intro [.int .u64 s] 241 (Mem.set_at _ _ _) rfl (Nat.le_refl _) ?_
  have e : Mem.set (JX J rs s d) rs (.cells #[.int .u64 v] 241 (0, 0)) = JX J rs v d := by rw [Mem.set_set]
  show K (Mem.set (JX J rs s d) rs (.cells #[.int .u64 v] 241 (0, 0)))
  rw [e]; exact h
theorem NextF_spec : SpecH Try.prog 224 [.pointer (some ⟨rs, 0, none⟩)] μ (JX J rs s d) fun v μ' h' => ∃ s', v = .int .u64 s' ∧ μ' = μ ∧ h' = JX J rs s' d := by
  refine SpecH.mk [] Try.func224 (by kernel_rfl) ?_
  refine rdX' ?_
  refine rdX' ?_
  refine need_intro (by decide) ?_
  refine num_intro fun _ _ => ?_
  refine num_intro fun _ _ => ?_
  refine wrX' ?_
  refine rdX' ?_
  refine rdX' ?_
  refine need_intro (by decide) ?_
  refine num_intro fun _ _ => ?_
  refine num_intro fun _ _ => ?_
  refine wrX' ?_
  refine rdX' ?_
  refine rdX' ?_
  refine need_intro (by decide) ?_
  refine num_intro fun _ _ => ?_
  refine num_intro fun _ _ => ?_
  refine wrX' ?_
  refine rdX' ?_
  exact ret_plain ⟨_, rfl, rfl, rfl⟩
end
section
variable {α : Type} [Inhabited α] {lf sf : FuncId} {lb sb : List Value} {n : Nat} {lt : α → α → Bool} {μ0 : Mem} {J : Array α → Mem} {V : Array α → Prop} {μ : Mem} {d : Array α} {rs : Nat} {s : Int}
theorem nextPowerOfTwoF_spec {x : Nat} (hx : x ≤ 1000000000000) : Gives Try.prog 223 [.int .i64 x] μ (.int .u64 ((2 ^ bitsLen x : Nat) : Int)) := by
  refine Spec.mk Try.func223 (by kernel_rfl) ?_
  have h1 : bitsLen x ≤ 40 := (bitsLen_le_iff x 40).2 (by omega)
  have h2 : 2 ^ bitsLen x ≤ 2 ^ 40 := Nat.pow_le_pow_right (by decide) h1
  have h3 : (2 : Nat) ^ 40 = 1099511627776 := by decide
  refine num_eq (x := (x : Int)) (by
    show (x : Int) % 18446744073709551616 = _
    omega) ?_
  refine call_gives (Len_spec (by omega)) ?_
  refine num_eq (x := (bitsLen x : Int)) (by
    show ((bitsLen x : Nat) : Int) % 18446744073709551616 = _
    omega) ?_
  refine need_intro (by omega) ?_
  refine num_eq (x := ((2 ^ bitsLen x : Nat) : Int)) (by
    have e : min ((bitsLen x : Int).toNat) IntKind.u64.bits = bitsLen x := by
      show min ((bitsLen x : Int).toNat) 64 = bitsLen x
      omega
    rw [e]
    have h4 : ((2 : Int) ^ bitsLen x) = ((2 ^ bitsLen x : Nat) : Int) := by rw [Int.natCast_pow]; rfl
    show (1 * (2 : Int) ^ bitsLen x) % 18446744073709551616 = _
    rw [Int.one_mul, h4]
    generalize 2 ^ bitsLen x = P at *
    omega) ?_
  exact ret_gives rfl rfl
theorem breakPatternsF_spec (H : SortBy lf sf lb sb n lt μ0 J V) {a b : Nat} (hle : μ0.Le μ) (hV : V d) (ha : a + 8 ≤ b) (hb : b ≤ n) :
    SpecH Try.prog 203 [fdata lf sf lb sb, .int .i64 a, .int .i64 b] μ (J d) fun v μ' h' => v = .tuple #[] ∧ ∃ d', PermIn a b d d' ∧ h' = J d' ∧ V d' := by
  have hn := H.max
  refine SpecH.mk [7] Try.func203 (by kernel_rfl) ?_
  intro r1
  refine num_eq (x := ((b - a : Nat) : Int)) (by rw [wrap64 (by omega) (by omega)]; omega) ?_
  refine ifd (fun h8 => ?_) (fun h8 => by omega)
  refine num_intro fun s0 _ => ?_
  intro rs hm ho
  have hdom : ∀ d', V d' → J d' rs = none := fun d' hV' => H.dom hV hV' ho
  have H2 : ∀ s, SortBy lf sf lb sb n lt μ0 (JX J rs s) V := fun s => H.beside _ hdom
  generalize hH : Mem.set (J d) rs _ = H1
  obtain rfl : H1 = JX J rs 0 d := hH.symm
  clear hH hm
  refine wrX' ?_
  refine call_gives (nextPowerOfTwoF_spec (x := b - a) (by omega)) ?_
  have hP1 : 1 ≤ 2 ^ bitsLen (b - a) := Nat.two_pow_pos _
  have hP2 : 2 ^ bitsLen (b - a) ≤ 2 * (b - a) := two_pow_bitsLen_le (by omega)
  generalize 2 ^ bitsLen (b - a) = P at *
  refine need_intro (by decide) ?_
  refine num_eq (x := (((b - a) / 4 : Nat) : Int)) (by rw [Int.tdiv_eq_ediv_of_nonneg (by omega), wrap64 (by omega) (by omega)]; omega) ?_
  refine num_eq (x := (((b - a) / 4 * 2 : Nat) : Int)) (by rw [wrap64 (by omega) (by omega)]; omega) ?_
  refine num_eq (x := ((a + (b - a) / 4 * 2 : Nat) : Int)) (by rw [wrap64 (by omega) (by omega)]; omega) ?_
  refine num_eq (x := ((a + (b - a) / 4 * 2 - 1 : Nat) : Int)) (by rw [wrap64 (by omega) (by omega)]; omega) ?_
  refine loop_intro (fun p : Nat × Array α × Int => a + (b - a) / 4 * 2 ≤ p.1 + 1 ∧ p.1 ≤ a + (b - a) / 4 * 2 + 2 ∧ V p.2.1 ∧ PermIn a b d p.2.1)
    (fun (i, d, s) => ⟨[(1, .val (.int .i64 a)), (3, .loc 0 r1 0), (6, .val (.int .i64 (b - a : Nat))), (7, .val (.pointer (some ⟨rs, 0, none⟩))), (8, .val (.int .u64 P)), (9, .val (.int .i64 i))], fblk r1 lf sf lb sb, 1, μ, JX J rs s d⟩) (fun p => a + (b - a) / 4 * 2 + 3 - p.1)
    (a + (b - a) / 4 * 2 - 1, d, s0) ⟨by dsimp only; omega, by dsimp only; omega, hV, permIn_refl _ _ _⟩ (fun (_, _, _) => ⟨rfl, rfl⟩) ⟨⟨rfl, rfl, rfl, rfl, rfl, rfl, trivial⟩, ⟨rfl, trivial⟩, rfl, rfl⟩ ?_
  rintro ⟨i, d1, s1⟩ ⟨hi1, hi2, hV1, hp⟩
  dsimp only at hi1 hi2 hV1 hp
  have hs1 : d1.size = n := H.size hV1
  have hs0 : d.size = n := H.size hV
  refine need_intro (by decide) ?_
  refine num_eq (x := (((b - a) / 4 : Nat) : Int)) (by rw [Int.tdiv_eq_ediv_of_nonneg (by omega), wrap64 (by omega) (by omega)]; omega) ?_
  refine num_eq (x := (((b - a) / 4 * 2 : Nat) : Int)) (by rw [wrap64 (by omega) (by omega)]; omega) ?_
  refine num_eq (x := ((a + (b - a) / 4 * 2 : Nat) : Int)) (by rw [wrap64 (by omega) (by omega)]; omega) ?_
  refine num_eq (x := ((a + (b - a) / 4 * 2 + 1 : Nat) : Int)) (by rw [wrap64 (by omega) (by omega)]; omega) ?_
  refine ifd (fun hlx => ?_) (fun hlx => ?_)
  rotate_left
  · exact ret_own _ _ (parts_set (hdom d1 hV1)) ⟨rfl, d1, hp, rfl, hV1⟩
  refine call_own (NextF_spec) fun v μ' h' hle' hap hR => ?_
  obtain ⟨s2, rfl, e1, rfl⟩ := hR
  obtain rfl := e1.symm
  refine num_eq (x := ((P - 1 : Nat) : Int)) (by
    show ((P : Int) - 1) % 18446744073709551616 = _
    omega) ?_
  refine num_intro fun y hy => ?_
  obtain ⟨hy1, hy2⟩ := and_le (x := s2) (m := ((P - 1 : Nat) : Int)) (by omega) (by omega)
  rw [← hy] at hy1 hy2
  obtain ⟨o, rfl⟩ := Int.eq_ofNat_of_zero_le hy1
  clear hy
  refine num_eq (x := (o : Int)) (wrap64 (by omega) (by omega)) ?_
  refine ifd (fun ho => ?_) (fun ho => ?_)
  · refine num_eq (x := ((o - (b - a) : Nat) : Int)) (by rw [wrap64 (by omega) (by omega)]; omega) ?_
    have ho2 : o - (b - a) < b - a := by omega
    generalize o - (b - a) = q at *
    refine num_eq (x := ((a + q : Nat) : Int)) (by rw [wrap64 (by omega) (by omega)]; omega) ?_
    refine call_own ((H2 s2).swap hle hV1 (i := i) (j := a + q) (by omega) (by omega)) fun v μ' h' hle' hap hR => ?_
    obtain ⟨rfl, e2, rfl⟩ := hR
    obtain rfl := e2.symm
    refine num_eq (x := ((i + 1 : Nat) : Int)) (by rw [wrap64 (by omega) (by omega)]; omega) ?_
    exact ⟨(i + 1, swp d1 i (a + q), s2), ⟨by dsimp only; omega, by dsimp only; omega, H.sw hV1 (by omega) (by omega), permIn_trans _ _ _ _ _ hp (swp_permIn d1 a b i (a + q) (by omega) (by omega) (by omega) (by omega) (by omega))⟩, by dsimp only; omega, ⟨⟨rfl, rfl, rfl, rfl, rfl, rfl, trivial⟩, ⟨rfl, trivial⟩, rfl, rfl⟩⟩
  · refine num_eq (x := ((a + o : Nat) : Int)) (by rw [wrap64 (by omega) (by omega)]; omega) ?_
    refine call_own ((H2 s2).swap hle hV1 (i := i) (j := a + o) (by omega) (by omega)) fun v μ' h' hle' hap hR => ?_
    obtain ⟨rfl, e2, rfl⟩ := hR
    obtain rfl := e2.symm
    refine num_eq (x := ((i + 1 : Nat) : Int)) (by rw [wrap64 (by omega) (by omega)]; omega) ?_
    exact ⟨(i + 1, swp d1 i (a + o), s2), ⟨by dsimp only; omega, by dsimp only; omega, H.sw hV1 (by omega) (by omega), permIn_trans _ _ _ _ _ hp (swp_permIn d1 a b i (a + o) (by omega) (by omega) (by omega) (by omega) (by omega))⟩, by dsimp only; omega, ⟨⟨rfl, rfl, rfl, rfl, rfl, rfl, trivial⟩, ⟨rfl, trivial⟩, rfl, rfl⟩⟩
end
end Go.Vx

/- Contracts: the partitions, by the owner's functions. -/
namespace Go.Vx
open Go.Proofs Classical
open Go.Sort
section
variable {α : Type} [Inhabited α] {lf sf : FuncId} {lb sb : List Value} {n : Nat} {lt : α → α → Bool} {μ0 : Mem} {J : Array α → Mem} {V : Array α → Prop} {μ : Mem} {d : Array α}
theorem partitionEqualF_spec (H : SortBy lf sf lb sb n lt μ0 J V) {a b pivot : Nat} (hle : μ0.Le μ) (hV : V d) (hap : a ≤ pivot) (hpb : pivot < b) (hb : b ≤ n) :
    SpecH Try.prog 207 [fdata lf sf lb sb, .int .i64 a, .int .i64 b, .int .i64 pivot] μ (J d) fun v μ' h' => v = .int .i64 (partitionEqual lt d a b pivot).1 ∧ μ' = μ ∧ h' = J (partitionEqual lt d a b pivot).2 ∧ V (partitionEqual lt d a b pivot).2 := by
  have hn := H.max
  refine SpecH.mk [] Try.func207 (by kernel_rfl) ?_
  intro r1
  rw [partitionEqual]
  generalize hR : partEqLoop lt a (a + 1) (b - 1) (swp d a pivot) = R
  refine call_own (H.swap hle hV (i := a) (j := pivot) (by omega) (by omega)) fun v μ' h' hle' hap hR => ?_
  obtain ⟨rfl, e2, rfl⟩ := hR
  obtain rfl := e2.symm
  clear hle' hap
  refine num_eq (x := ((a + 1 : Nat) : Int)) (by rw [wrap64 (by omega) (by omega)]; omega) ?_
  refine num_eq (x := ((b - 1 : Nat) : Int)) (by rw [wrap64 (by omega) (by omega)]; omega) ?_
  refine loop_intro (fun p : Nat × Nat × Array α => a < p.1 ∧ p.1 ≤ p.2.1 + 2 ∧ p.2.1 < b ∧ V p.2.2 ∧ partEqLoop lt a p.1 p.2.1 p.2.2 = R)
    (fun (i, j, d) => ⟨[(1, .val (.int .i64 a)), (4, .loc 0 r1 0), (9, .val (.int .i64 i)), (10, .val (.int .i64 j))], fblk r1 lf sf lb sb, 1, μ, J d⟩) (fun p => p.2.1 + 1 - p.1)
    (a + 1, b - 1, swp d a pivot) ⟨by dsimp only; omega, by dsimp only; omega, by dsimp only; omega, H.sw hV (by omega) (by omega), hR⟩ (fun (_, _, _) => ⟨rfl, rfl⟩) ⟨⟨rfl, rfl, rfl, rfl, trivial⟩, ⟨rfl, trivial⟩, rfl, rfl⟩ ?_
  clear hR
  rintro ⟨i, j, d1⟩ ⟨hai, hij0, hjb, hs, hR⟩
  dsimp only at hai hij0 hjb hs hR
  rw [partEqLoop_eq] at hR
  generalize hU : scanUp (fun x => !lt d1[a]! x) d1 j i = U at *
  refine loop_intro (fun i' : Nat => i ≤ i' ∧ i' ≤ j + 2 ∧ scanUp (fun x => !lt d1[a]! x) d1 j i' = U) (fun i' => ⟨[(1, .val (.int .i64 a)), (4, .loc 0 r1 0), (9, .val (.int .i64 i')), (10, .val (.int .i64 j))], fblk r1 lf sf lb sb, 1, μ, J d1⟩) (fun i' => j + 1 - i')
    i ⟨by omega, by omega, hU⟩ (fun _ => ⟨rfl, rfl⟩) ⟨⟨rfl, rfl, rfl, rfl, trivial⟩, ⟨rfl, trivial⟩, rfl, rfl⟩ ?_
  clear hU
  rintro i' ⟨h1, h2, hU⟩
  rw [scanUp] at hU
  refine ifd (fun hij => ?_) (fun hij => ?_)
  refine call_own (H.less hle hs (i := a) (j := i') (by omega) (by omega)) fun v μ' h' hle' hap hR => ?_
  obtain ⟨rfl, e2, rfl⟩ := hR
  obtain rfl := e2.symm
  clear hle' hap
  refine if_intro (fun hl => ?_) (fun hl => ?_)
  · rw [if_pos (by simp only [Bool.and_eq_true, decide_eq_true_eq]; exact ⟨by omega, hl⟩)] at hU
    refine num_eq (x := ((i' + 1 : Nat) : Int)) (by rw [wrap64 (by omega) (by omega)]; omega) ?_
    exact ⟨i' + 1, ⟨by omega, by omega, hU⟩, by omega, ⟨⟨rfl, rfl, rfl, rfl, trivial⟩, ⟨rfl, trivial⟩, rfl, rfl⟩⟩
  rw [if_neg (by simp only [Bool.and_eq_true, hl]; simp)] at hU
  rotate_left
  rw [if_neg (by simp; omega)] at hU
  obtain rfl := hU
  rotate_left
  obtain rfl := hU
  rotate_left
  all_goals
    generalize hV : scanDown (fun x => lt d1[a]! x) d1 i' j = V at *
    refine loop_intro (fun j' : Nat => j' ≤ j ∧ 0 ≤ j' ∧ scanDown (fun x => lt d1[a]! x) d1 i' j' = V) (fun j' => ⟨[(1, .val (.int .i64 a)), (4, .loc 0 r1 0), (9, .val (.int .i64 i')), (10, .val (.int .i64 j'))], fblk r1 lf sf lb sb, 1, μ, J d1⟩) (fun j' => j')
      j ⟨by omega, by omega, hV⟩ (fun _ => ⟨rfl, rfl⟩) ⟨⟨rfl, rfl, rfl, rfl, trivial⟩, ⟨rfl, trivial⟩, rfl, rfl⟩ ?_
    clear hV
    rintro j' ⟨g1, g2, hV⟩
    refine ifd (fun hij2 => ?_) (fun hij2 => ?_)
    obtain ⟨k, rfl⟩ : ∃ k, j' = k + 1 := ⟨j' - 1, by omega⟩
    rw [scanDown] at hV
    refine call_own (H.less hle hs (i := a) (j := k + 1) (by omega) (by omega)) fun v μ' h' hle' hap hR => ?_
    obtain ⟨rfl, e2, rfl⟩ := hR
    obtain rfl := e2.symm
    clear hle' hap
    refine if_intro (fun hl => ?_) (fun hl => ?_)
    · rw [if_pos (by simp only [Bool.and_eq_true, decide_eq_true_eq]; exact ⟨by omega, hl⟩)] at hV
      refine num_eq (x := ((k : Nat) : Int)) (by rw [wrap64 (by omega) (by omega)]; omega) ?_
      exact ⟨k, ⟨by omega, by omega, hV⟩, by omega, ⟨⟨rfl, rfl, rfl, rfl, trivial⟩, ⟨rfl, trivial⟩, rfl, rfl⟩⟩
    rw [if_neg (by simp only [Bool.and_eq_true, hl]; simp)] at hV
    obtain rfl := hV
    generalize k + 1 = j' at *
    rotate_left
    replace hV : j' = V := by
      cases j' with
      | zero => exact hV
      | succ k => rwa [scanDown, if_neg (by simp; omega)] at hV
    obtain rfl := hV
    rotate_left
  all_goals
    refine ifd (fun hgt => ?_) (fun hgt => ?_)
    · rw [if_pos (by omega)] at hR
      subst hR
      exact ret_plain ⟨rfl, rfl, rfl, hs⟩
    · rw [if_neg (by omega)] at hR
      refine call_own (H.swap hle hs (i := i') (j := j') (by omega) (by omega)) fun v μ' h' hle' hap hR => ?_
      obtain ⟨rfl, e2, rfl⟩ := hR
      obtain rfl := e2.symm
      clear hle' hap
      refine num_eq (x := ((i' + 1 : Nat) : Int)) (by rw [wrap64 (by omega) (by omega)]; omega) ?_
      refine num_eq (x := ((j' - 1 : Nat) : Int)) (by rw [wrap64 (by omega) (by omega)]; omega) ?_
      exact ⟨(i' + 1, j' - 1, swp d1 i' j'), ⟨by dsimp only; omega, by dsimp only; omega, by dsimp only; omega, H.sw hs (by omega) (by omega), hR⟩, by dsimp only; omega, ⟨⟨rfl, rfl, rfl, rfl, trivial⟩, ⟨rfl, trivial⟩, rfl, rfl⟩⟩
set_option maxHeartbeats 4000000 in
theorem partitionF_spec (H : SortBy lf sf lb sb n lt μ0 J V) {a b pivot : Nat} (hle : μ0.Le μ) (hV : V d) (hap : a ≤ pivot) (hpb : pivot < b) (hb : b ≤ n) :
    SpecH Try.prog 208 [fdata lf sf lb sb, .int .i64 a, .int .i64 b, .int .i64 pivot] μ (J d) fun v μ' h' => (∃ ap, v = .tuple #[.int .i64 (partition lt d a b pivot).1, .bool ap]) ∧ μ' = μ ∧ h' = J (partition lt d a b pivot).2.2 ∧ V (partition lt d a b pivot).2.2 := by
  have hn := H.max
  refine SpecH.mk [] Try.func208 (by kernel_rfl) ?_
  intro r1
  rw [partition_fst, partition_arr]
  generalize hR : partLoop lt a (a + 1) (b - 1) (swp d a pivot) = R
  refine call_own (H.swap hle hV (i := a) (j := pivot) (by omega) (by omega)) fun v μ' h' hle' hap hR => ?_
  obtain ⟨rfl, e2, rfl⟩ := hR
  obtain rfl := e2.symm
  clear hle' hap
  refine num_eq (x := ((a + 1 : Nat) : Int)) (by rw [wrap64 (by omega) (by omega)]; omega) ?_
  refine num_eq (x := ((b - 1 : Nat) : Int)) (by rw [wrap64 (by omega) (by omega)]; omega) ?_
  have hs : V (swp d a pivot) := H.sw hV (by omega) (by omega)
  generalize swp d a pivot = d1 at *
  obtain ⟨i, hi⟩ : ∃ i, i = a + 1 := ⟨_, rfl⟩
  obtain ⟨j, hj⟩ : ∃ j, j = b - 1 := ⟨_, rfl⟩
  have hai : a < i := by omega
  have hij0 : i ≤ j + 2 := by omega
  have hjb : j < b := by omega
  rw [← hi, ← hj] at hR ⊢
  clear hi hj
  rw [partLoop_eq] at hR
  generalize hU : scanUp (fun x => lt x d1[a]!) d1 j i = U at *
  refine loop_intro (fun i' : Nat => i ≤ i' ∧ i' ≤ j + 2 ∧ scanUp (fun x => lt x d1[a]!) d1 j i' = U) (fun i' => ⟨[(1, .val (.int .i64 a)), (4, .loc 0 r1 0), (10, .val (.int .i64 i')), (11, .val (.int .i64 j))], fblk r1 lf sf lb sb, 1, μ, J d1⟩) (fun i' => j + 1 - i')
    i ⟨by omega, by omega, hU⟩ (fun _ => ⟨rfl, rfl⟩) ⟨⟨rfl, rfl, rfl, rfl, trivial⟩, ⟨rfl, trivial⟩, rfl, rfl⟩ ?_
  clear hU
  rintro i' ⟨h1, h2, hU⟩
  rw [scanUp] at hU
  refine ifd (fun hij => ?_) (fun hij => ?_)
  refine call_own (H.less hle hs (i := i') (j := a) (by omega) (by omega)) fun v μ' h' hle' hap hR => ?_
  obtain ⟨rfl, e2, rfl⟩ := hR
  obtain rfl := e2.symm
  clear hle' hap
  refine if_intro (fun hl => ?_) (fun hl => ?_)
  · rw [if_pos (by simp only [Bool.and_eq_true, decide_eq_true_eq]; exact ⟨by omega, hl⟩)] at hU
    refine num_eq (x := ((i' + 1 : Nat) : Int)) (by rw [wrap64 (by omega) (by omega)]; omega) ?_
    exact ⟨i' + 1, ⟨by omega, by omega, hU⟩, by omega, ⟨⟨rfl, rfl, rfl, rfl, trivial⟩, ⟨rfl, trivial⟩, rfl, rfl⟩⟩
  rw [if_neg (by simp only [Bool.and_eq_true, hl]; simp)] at hU
  rotate_left
  rw [if_neg (by simp; omega)] at hU
  obtain rfl := hU
  rotate_left
  obtain rfl := hU
  rotate_left
  all_goals
    generalize hV : scanDown (fun x => !lt x d1[a]!) d1 i' j = V at *
    refine loop_intro (fun j' : Nat => j' ≤ j ∧ 0 ≤ j' ∧ scanDown (fun x => !lt x d1[a]!) d1 i' j' = V) (fun j' => ⟨[(1, .val (.int .i64 a)), (4, .loc 0 r1 0), (10, .val (.int .i64 i')), (11, .val (.int .i64 j'))], fblk r1 lf sf lb sb, 1, μ, J d1⟩) (fun j' => j')
      j ⟨by omega, by omega, hV⟩ (fun _ => ⟨rfl, rfl⟩) ⟨⟨rfl, rfl, rfl, rfl, trivial⟩, ⟨rfl, trivial⟩, rfl, rfl⟩ ?_
    clear hV
    rintro j' ⟨g1, g2, hV⟩
    refine ifd (fun hij2 => ?_) (fun hij2 => ?_)
    obtain ⟨k, rfl⟩ : ∃ k, j' = k + 1 := ⟨j' - 1, by omega⟩
    rw [scanDown] at hV
    refine call_own (H.less hle hs (i := k + 1) (j := a) (by omega) (by omega)) fun v μ' h' hle' hap hR => ?_
    obtain ⟨rfl, e2, rfl⟩ := hR
    obtain rfl := e2.symm
    clear hle' hap
    refine if_intro (fun hl => ?_) (fun hl => ?_)
    · rw [if_pos (by simp only [Bool.and_eq_true, decide_eq_true_eq]; exact ⟨by omega, hl⟩)] at hV
      refine num_eq (x := ((k : Nat) : Int)) (by rw [wrap64 (by omega) (by omega)]; omega) ?_
      exact ⟨k, ⟨by omega, by omega, hV⟩, by omega, ⟨⟨rfl, rfl, rfl, rfl, trivial⟩, ⟨rfl, trivial⟩, rfl, rfl⟩⟩
    rw [if_neg (by simp only [Bool.and_eq_true, hl]; simp)] at hV
    obtain rfl := hV
    generalize k + 1 = j' at *
    rotate_left
    replace hV : j' = V := by
      cases j' with
      | zero => exact hV
      | succ k => rwa [scanDown, if_neg (by simp; omega)] at hV
    obtain rfl := hV
    rotate_left
  all_goals
    refine ifd (fun hgt => ?_) (fun hgt => ?_)
    · rw [if_pos (by omega)] at hR
      subst hR
      refine call_own (H.swap hle hs (i := j') (j := a) (by omega) (by omega)) fun v μ' h' hle' hap hR => ?_
      obtain ⟨rfl, e2, rfl⟩ := hR
      obtain rfl := e2.symm
      clear hle' hap
      exact ret_plain ⟨⟨_, rfl⟩, rfl, rfl, H.sw hs (by omega) (by omega)⟩
    · rw [if_neg (by omega)] at hR
      refine call_own (H.swap hle hs (i := i') (j := j') (by omega) (by omega)) fun v μ' h' hle' hap hR => ?_
      obtain ⟨rfl, e2, rfl⟩ := hR
      obtain rfl := e2.symm
      clear hle' hap
      refine num_eq (x := ((i' + 1 : Nat) : Int)) (by rw [wrap64 (by omega) (by omega)]; omega) ?_
      refine num_eq (x := ((j' - 1 : Nat) : Int)) (by rw [wrap64 (by omega) (by omega)]; omega) ?_
      refine loop_intro (fun p : Nat × Nat × Array α => a < p.1 ∧ p.1 ≤ p.2.1 + 2 ∧ p.2.1 < b ∧ V p.2.2 ∧ partLoop lt a p.1 p.2.1 p.2.2 = R)
        (fun (i, j, d) => ⟨[(1, .val (.int .i64 a)), (4, .loc 0 r1 0), (10, .val (.int .i64 i)), (11, .val (.int .i64 j))], fblk r1 lf sf lb sb, 1, μ, J d⟩) (fun p => p.2.1 + 1 - p.1)
        (i' + 1, j' - 1, swp d1 i' j') ⟨by dsimp only; omega, by dsimp only; omega, by dsimp only; omega, H.sw hs (by omega) (by omega), hR⟩ (fun (_, _, _) => ⟨rfl, rfl⟩) ⟨⟨rfl, rfl, rfl, rfl, trivial⟩, ⟨rfl, trivial⟩, rfl, rfl⟩ ?_
      clear hR hgt hs hai hij0 hjb h1 h2 g1 g2
      rintro ⟨i, j, d1⟩ ⟨hai, hij0, hjb, hs, hR⟩
      dsimp only at hai hij0 hjb hs hR
      rw [partLoop_eq] at hR
      generalize hU : scanUp (fun x => lt x d1[a]!) d1 j i = U at *
      refine loop_intro (fun i' : Nat => i ≤ i' ∧ i' ≤ j + 2 ∧ scanUp (fun x => lt x d1[a]!) d1 j i' = U) (fun i' => ⟨[(1, .val (.int .i64 a)), (4, .loc 0 r1 0), (10, .val (.int .i64 i')), (11, .val (.int .i64 j))], fblk r1 lf sf lb sb, 1, μ, J d1⟩) (fun i' => j + 1 - i')
        i ⟨by omega, by omega, hU⟩ (fun _ => ⟨rfl, rfl⟩) ⟨⟨rfl, rfl, rfl, rfl, trivial⟩, ⟨rfl, trivial⟩, rfl, rfl⟩ ?_
      clear hU
      rintro i' ⟨h1, h2, hU⟩
      rw [scanUp] at hU
      refine ifd (fun hij => ?_) (fun hij => ?_)
      refine call_own (H.less hle hs (i := i') (j := a) (by omega) (by omega)) fun v μ' h' hle' hap hR => ?_
      obtain ⟨rfl, e2, rfl⟩ := hR
      obtain rfl := e2.symm
      clear hle' hap
      refine if_intro (fun hl => ?_) (fun hl => ?_)
      · rw [if_pos (by simp only [Bool.and_eq_true, decide_eq_true_eq]; exact ⟨by omega, hl⟩)] at hU
        refine num_eq (x := ((i' + 1 : Nat) : Int)) (by rw [wrap64 (by omega) (by omega)]; omega) ?_
        exact ⟨i' + 1, ⟨by omega, by omega, hU⟩, by omega, ⟨⟨rfl, rfl, rfl, rfl, trivial⟩, ⟨rfl, trivial⟩, rfl, rfl⟩⟩
      rw [if_neg (by simp only [Bool.and_eq_true, hl]; simp)] at hU
      rotate_left
      rw [if_neg (by simp; omega)] at hU
      obtain rfl := hU
      rotate_left
      obtain rfl := hU
      rotate_left
      all_goals
        generalize hV : scanDown (fun x => !lt x d1[a]!) d1 i' j = V at *
        refine loop_intro (fun j' : Nat => j' ≤ j ∧ 0 ≤ j' ∧ scanDown (fun x => !lt x d1[a]!) d1 i' j' = V) (fun j' => ⟨[(1, .val (.int .i64 a)), (4, .loc 0 r1 0), (10, .val (.int .i64 i')), (11, .val (.int .i64 j'))], fblk r1 lf sf lb sb, 1, μ, J d1⟩) (fun j' => j')
          j ⟨by omega, by omega, hV⟩ (fun _ => ⟨rfl, rfl⟩) ⟨⟨rfl, rfl, rfl, rfl, trivial⟩, ⟨rfl, trivial⟩, rfl, rfl⟩ ?_
        clear hV
        rintro j' ⟨g1, g2, hV⟩
        refine ifd (fun hij2 => ?_) (fun hij2 => ?_)
        obtain ⟨k, rfl⟩ : ∃ k, j' = k + 1 := ⟨j' - 1, by omega⟩
        rw [scanDown] at hV
        refine call_own (H.less hle hs (i := k + 1) (j := a) (by omega) (by omega)) fun v μ' h' hle' hap hR => ?_
        obtain ⟨rfl, e2, rfl⟩ := hR
        obtain rfl := e2.symm
        clear hle' hap
        refine if_intro (fun hl => ?_) (fun hl => ?_)
        · rw [if_pos (by simp only [Bool.and_eq_true, decide_eq_true_eq]; exact ⟨by omega, hl⟩)] at hV
          refine num_eq (x := ((k : Nat) : Int)) (by rw [wrap64 (by omega) (by omega)]; omega) ?_
          exact ⟨k, ⟨by omega, by omega, hV⟩, by omega, ⟨⟨rfl, rfl, rfl, rfl, trivial⟩, ⟨rfl, trivial⟩, rfl, rfl⟩⟩
        rw [if_neg (by simp only [Bool.and_eq_true, hl]; simp)] at hV
        obtain rfl := hV
        generalize k + 1 = j' at *
        rotate_left
        replace hV : j' = V := by
          cases j' with
          | zero => exact hV
          | succ k => rwa [scanDown, if_neg (by simp; omega)] at hV
        obtain rfl := hV
        rotate_left
      all_goals
        refine ifd (fun hgt => ?_) (fun hgt => ?_)
        · rw [if_pos (by omega)] at hR
          subst hR
          refine call_own (H.swap hle hs (i := j') (j := a) (by omega) (by omega)) fun v μ' h' hle' hap hR => ?_
          obtain ⟨rfl, e2, rfl⟩ := hR
          obtain rfl := e2.symm
          clear hle' hap
          exact ret_plain ⟨⟨_, rfl⟩, rfl, rfl, H.sw hs (by omega) (by omega)⟩
        · rw [if_neg (by omega)] at hR
          refine call_own (H.swap hle hs (i := i') (j := j') (by omega) (by omega)) fun v μ' h' hle' hap hR => ?_
          obtain ⟨rfl, e2, rfl⟩ := hR
          obtain rfl := e2.symm
          clear hle' hap
          refine num_eq (x := ((i' + 1 : Nat) : Int)) (by rw [wrap64 (by omega) (by omega)]; omega) ?_
          refine num_eq (x := ((j' - 1 : Nat) : Int)) (by rw [wrap64 (by omega) (by omega)]; omega) ?_
          exact ⟨(i' + 1, j' - 1, swp d1 i' j'), ⟨by dsimp only; omega, by dsimp only; omega, by dsimp only; omega, H.sw hs (by omega) (by omega), hR⟩, by dsimp only; omega, ⟨⟨rfl, rfl, rfl, rfl, trivial⟩, ⟨rfl, trivial⟩, rfl, rfl⟩⟩
end
end Go.Vx

/- Contracts: a few steps of insertion, by the owner's functions. -/
namespace Go.Vx
open Go.Proofs Classical
open Go.Sort
section
variable {α : Type} [Inhabited α] {lf sf : FuncId} {lb sb : List Value} {n : Nat} {lt : α → α → Bool} {μ0 : Mem} {J : Array α → Mem} {V : Array α → Prop} {μ : Mem} {d : Array α}
set_option maxHeartbeats 8000000 in
theorem partialInsertionSortF_spec (H : SortBy lf sf lb sb n lt μ0 J V) {a b : Nat} (hle : μ0.Le μ) (hV : V d) (ha : a < b) (hb : b ≤ n) :
    SpecH Try.prog 206 [fdata lf sf lb sb, .int .i64 a, .int .i64 b] μ (J d) fun v μ' h' => v = .bool (partialInsertionSort lt d a b).2 ∧ μ' = μ ∧ h' = J (partialInsertionSort lt d a b).1 ∧ V (partialInsertionSort lt d a b).1 := by
  have hn := H.max
  refine SpecH.mk [] Try.func206 (by kernel_rfl) ?_
  intro r1
  rw [partialInsertionSort]
  generalize hR : partialIns lt a b 5 (a + 1) d = R
  refine num_eq (x := ((a + 1 : Nat) : Int)) (by rw [wrap64 (by omega) (by omega)]; omega) ?_
  refine loop_intro (fun p : Nat × Nat × Array α => p.1 ≤ 5 ∧ a < p.2.1 ∧ p.2.1 ≤ b ∧ V p.2.2 ∧ partialIns lt a b p.1 p.2.1 p.2.2 = R)
    (fun (t, i, d) => ⟨[(1, .val (.int .i64 a)), (2, .val (.int .i64 b)), (3, .loc 0 r1 0), (7, .val (.int .i64 i)), (8, .val (.int .i64 (5 - (t : Int))))], fblk r1 lf sf lb sb, 1, μ, J d⟩) (fun p => p.1)
    (5, a + 1, d) ⟨by dsimp only; omega, by dsimp only; omega, by dsimp only; omega, hV, hR⟩ (fun (_, _, _) => ⟨rfl, rfl⟩) ⟨⟨rfl, rfl, rfl, rfl, rfl, trivial⟩, ⟨rfl, trivial⟩, rfl, rfl⟩ ?_
  clear hR
  rintro ⟨t, i, d1⟩ ⟨ht, hai, hib, hs, hR⟩
  dsimp only at ht hai hib hs hR
  refine ifd (fun h5 => ?_) (fun h5 => ?_)
  rotate_left
  · obtain rfl : t = 0 := by omega
    rw [partialIns] at hR
    subst hR
    exact ret_plain ⟨rfl, rfl, rfl, hs⟩
  obtain ⟨t, rfl⟩ : ∃ k, t = k + 1 := ⟨t - 1, by omega⟩
  rw [partialIns_succ] at hR
  generalize hS : scanSorted lt d1 b i = S at *
  refine loop_intro (fun i' : Nat => i ≤ i' ∧ i' ≤ b ∧ scanSorted lt d1 b i' = S) (fun i' => ⟨[(1, .val (.int .i64 a)), (2, .val (.int .i64 b)), (3, .loc 0 r1 0), (7, .val (.int .i64 i')), (8, .val (.int .i64 (5 - ((t + 1 : Nat) : Int))))], fblk r1 lf sf lb sb, 1, μ, J d1⟩) (fun i' => b - i')
    i ⟨by omega, by omega, hS⟩ (fun _ => ⟨rfl, rfl⟩) ⟨⟨rfl, rfl, rfl, rfl, rfl, trivial⟩, ⟨rfl, trivial⟩, rfl, rfl⟩ ?_
  clear hS
  rintro i' ⟨h1, h2, hS⟩
  rw [scanSorted] at hS
  refine ifd (fun hlt => ?_) (fun hlt => ?_)
  rotate_left
  · rw [if_neg (by simp; omega)] at hS
    obtain rfl := hS
    rw [if_pos (by omega)] at hR
    subst hR
    refine ifd (fun _ => ?_) (fun h => absurd (by omega) h)
    exact ret_plain ⟨rfl, rfl, rfl, hs⟩
  refine num_eq (x := ((i' - 1 : Nat) : Int)) (by rw [wrap64 (by omega) (by omega)]; omega) ?_
  refine call_own (H.less hle hs (i := i') (j := i' - 1) (by omega) (by omega)) fun v μ' h' hle' hap hR => ?_
  obtain ⟨rfl, e2, rfl⟩ := hR
  obtain rfl := e2.symm
  clear hle' hap
  refine if_intro (fun hl => ?_) (fun hl => ?_)
  · rw [if_pos (by simp only [Bool.and_eq_true, decide_eq_true_eq]; exact ⟨by omega, hl⟩)] at hS
    refine num_eq (x := ((i' + 1 : Nat) : Int)) (by rw [wrap64 (by omega) (by omega)]; omega) ?_
    exact ⟨i' + 1, ⟨by omega, by omega, hS⟩, by omega, ⟨⟨rfl, rfl, rfl, rfl, rfl, trivial⟩, ⟨rfl, trivial⟩, rfl, rfl⟩⟩
  rw [if_neg (by simp only [Bool.and_eq_true, hl]; simp)] at hS
  obtain rfl := hS
  refine ifd (fun h => absurd h (by omega)) (fun _ => ?_)
  rw [if_neg (by omega)] at hR
  refine num_eq (x := ((b - a : Nat) : Int)) (by rw [wrap64 (by omega) (by omega)]; omega) ?_
  refine ifd (fun h50 => ?_) (fun h50 => ?_)
  · rw [if_pos (by omega)] at hR
    subst hR
    exact ret_plain ⟨rfl, rfl, rfl, hs⟩
  rw [if_neg (by omega)] at hR
  refine num_eq (x := ((i' - 1 : Nat) : Int)) (by rw [wrap64 (by omega) (by omega)]; omega) ?_
  refine call_own (H.swap hle hs (i := i') (j := i' - 1) (by omega) (by omega)) fun v μ' h' hle' hap hR => ?_
  obtain ⟨rfl, e2, rfl⟩ := hR
  obtain rfl := e2.symm
  clear hle' hap
  have hs2 : V (swp d1 i' (i' - 1)) := H.sw hs (by omega) (by omega)
  generalize swp d1 i' (i' - 1) = d2 at *
  refine num_eq (x := ((i' - a : Nat) : Int)) (by rw [wrap64 (by omega) (by omega)]; omega) ?_
  unfold fixDown at hR
  refine ifd (fun hd2 => ?_) (fun hd2 => ?_)
  · rw [if_pos (by omega)] at hR
    refine num_eq (x := ((i' - 1 : Nat) : Int)) (by rw [wrap64 (by omega) (by omega)]; omega) ?_
    generalize hD : shiftDown lt (i' - 1) d2 = D2 at *
    refine loop_intro (fun p : Nat × Array α => p.1 ≤ i' - 1 ∧ V p.2 ∧ shiftDown lt p.1 p.2 = D2) (fun (j, d) => ⟨[(1, .val (.int .i64 a)), (2, .val (.int .i64 b)), (3, .loc 0 r1 0), (7, .val (.int .i64 i')), (8, .val (.int .i64 (5 - ((t + 1 : Nat) : Int)))), (9, .val (.int .i64 j))], fblk r1 lf sf lb sb, 1, μ, J d⟩) (fun p => p.1)
      (i' - 1, d2) ⟨by dsimp only; omega, hs2, hD⟩ (fun (_, _) => ⟨rfl, rfl⟩) ⟨⟨rfl, rfl, rfl, rfl, rfl, rfl, trivial⟩, ⟨rfl, trivial⟩, rfl, rfl⟩ ?_
    clear hD
    rintro ⟨j, d3⟩ ⟨hj, hs3, hD⟩
    dsimp only at hj hs3 hD
    refine ifd (fun hj1 => ?_) (fun hj1 => ?_)
    · obtain ⟨k, rfl⟩ : ∃ k, j = k + 1 := ⟨j - 1, by omega⟩
      rw [shiftDown] at hD
      refine num_eq (x := ((k : Nat) : Int)) (by rw [wrap64 (by omega) (by omega)]; omega) ?_
      refine call_own (H.less hle hs3 (i := k + 1) (j := k) (by omega) (by omega)) fun v μ' h' hle' hap hR => ?_
      obtain ⟨rfl, e2, rfl⟩ := hR
      obtain rfl := e2.symm
      clear hle' hap
      refine if_intro (fun hl2 => ?_) (fun hl2 => ?_)
      · rw [if_pos hl2] at hD
        obtain rfl := hD
        refine num_eq (x := ((b - i' : Nat) : Int)) (by rw [wrap64 (by omega) (by omega)]; omega) ?_
        unfold fixUp at hR
        refine ifd (fun hu2 => ?_) (fun hu2 => ?_)
        · rw [if_pos (by omega)] at hR
          refine num_eq (x := ((i' + 1 : Nat) : Int)) (by rw [wrap64 (by omega) (by omega)]; omega) ?_
          generalize hE : shiftUp lt b (i' + 1) d3 = D4 at *
          refine loop_intro (fun p : Nat × Array α => i' + 1 ≤ p.1 ∧ p.1 ≤ b + 1 ∧ V p.2 ∧ shiftUp lt b p.1 p.2 = D4) (fun (j, d) => ⟨[(1, .val (.int .i64 a)), (2, .val (.int .i64 b)), (3, .loc 0 r1 0), (7, .val (.int .i64 i')), (8, .val (.int .i64 (5 - ((t + 1 : Nat) : Int)))), (10, .val (.int .i64 j))], fblk r1 lf sf lb sb, 1, μ, J d⟩) (fun p => b - p.1)
            (i' + 1, d3) ⟨by dsimp only; omega, by dsimp only; omega, hs3, hE⟩ (fun (_, _) => ⟨rfl, rfl⟩) ⟨⟨rfl, rfl, rfl, rfl, rfl, rfl, trivial⟩, ⟨rfl, trivial⟩, rfl, rfl⟩ ?_
          clear hE
          rintro ⟨j2, d5⟩ ⟨hj2, hjb2, hs5, hE⟩
          dsimp only at hj2 hjb2 hs5 hE
          rw [shiftUp] at hE
          refine ifd (fun hj1 => ?_) (fun hj1 => ?_)
          · rw [if_pos (by omega)] at hE
            refine num_eq (x := ((j2 - 1 : Nat) : Int)) (by rw [wrap64 (by omega) (by omega)]; omega) ?_
            refine call_own (H.less hle hs5 (i := j2) (j := j2 - 1) (by omega) (by omega)) fun v μ' h' hle' hap hR => ?_
            obtain ⟨rfl, e2, rfl⟩ := hR
            obtain rfl := e2.symm
            clear hle' hap
            refine if_intro (fun hl3 => ?_) (fun hl3 => ?_)
            · rw [if_pos hl3] at hE
              obtain rfl := hE
              refine num_eq (x := 5 - (t : Int)) (by rw [wrap64 (by omega) (by omega)]; omega) ?_
              exact ⟨(t, i', d5), ⟨by dsimp only; omega, by dsimp only; omega, by dsimp only; omega, hs5, hR⟩, by dsimp only; omega, ⟨⟨rfl, rfl, rfl, rfl, rfl, trivial⟩, ⟨rfl, trivial⟩, rfl, rfl⟩⟩
            · rw [if_neg (by simp only [hl3]; simp)] at hE
              refine num_eq (x := ((j2 - 1 : Nat) : Int)) (by rw [wrap64 (by omega) (by omega)]; omega) ?_
              refine call_own (H.swap hle hs5 (i := j2) (j := j2 - 1) (by omega) (by omega)) fun v μ' h' hle' hap hR => ?_
              obtain ⟨rfl, e2, rfl⟩ := hR
              obtain rfl := e2.symm
              clear hle' hap
              refine num_eq (x := ((j2 + 1 : Nat) : Int)) (by rw [wrap64 (by omega) (by omega)]; omega) ?_
              exact ⟨(j2 + 1, swp d5 j2 (j2 - 1)), ⟨by dsimp only; omega, by dsimp only; omega, H.sw hs5 (by omega) (by omega), hE⟩, by dsimp only; omega, ⟨⟨rfl, rfl, rfl, rfl, rfl, rfl, trivial⟩, ⟨rfl, trivial⟩, rfl, rfl⟩⟩
          · rw [if_neg (by omega)] at hE
            obtain rfl := hE
            refine num_eq (x := 5 - (t : Int)) (by rw [wrap64 (by omega) (by omega)]; omega) ?_
            exact ⟨(t, i', d5), ⟨by dsimp only; omega, by dsimp only; omega, by dsimp only; omega, hs5, hR⟩, by dsimp only; omega, ⟨⟨rfl, rfl, rfl, rfl, rfl, trivial⟩, ⟨rfl, trivial⟩, rfl, rfl⟩⟩
        · rw [if_neg (by omega)] at hR
          refine num_eq (x := 5 - (t : Int)) (by rw [wrap64 (by omega) (by omega)]; omega) ?_
          exact ⟨(t, i', d3), ⟨by dsimp only; omega, by dsimp only; omega, by dsimp only; omega, hs3, hR⟩, by dsimp only; omega, ⟨⟨rfl, rfl, rfl, rfl, rfl, trivial⟩, ⟨rfl, trivial⟩, rfl, rfl⟩⟩
      · rw [if_neg (by simp only [hl2]; simp)] at hD
        refine num_eq (x := ((k : Nat) : Int)) (by rw [wrap64 (by omega) (by omega)]; omega) ?_
        refine call_own (H.swap hle hs3 (i := k + 1) (j := k) (by omega) (by omega)) fun v μ' h' hle' hap hR => ?_
        obtain ⟨rfl, e2, rfl⟩ := hR
        obtain rfl := e2.symm
        clear hle' hap
        refine num_eq (x := ((k : Nat) : Int)) (by rw [wrap64 (by omega) (by omega)]; omega) ?_
        exact ⟨(k, swp d3 (k + 1) k), ⟨by dsimp only; omega, H.sw hs3 (by omega) (by omega), hD⟩, by dsimp only; omega, ⟨⟨rfl, rfl, rfl, rfl, rfl, rfl, trivial⟩, ⟨rfl, trivial⟩, rfl, rfl⟩⟩
    · obtain rfl : j = 0 := by omega
      have hD : d3 = D2 := hD
      obtain rfl := hD
      refine num_eq (x := ((b - i' : Nat) : Int)) (by rw [wrap64 (by omega) (by omega)]; omega) ?_
      unfold fixUp at hR
      refine ifd (fun hu2 => ?_) (fun hu2 => ?_)
      · rw [if_pos (by omega)] at hR
        refine num_eq (x := ((i' + 1 : Nat) : Int)) (by rw [wrap64 (by omega) (by omega)]; omega) ?_
        generalize hE : shiftUp lt b (i' + 1) d3 = D4 at *
        refine loop_intro (fun p : Nat × Array α => i' + 1 ≤ p.1 ∧ p.1 ≤ b + 1 ∧ V p.2 ∧ shiftUp lt b p.1 p.2 = D4) (fun (j, d) => ⟨[(1, .val (.int .i64 a)), (2, .val (.int .i64 b)), (3, .loc 0 r1 0), (7, .val (.int .i64 i')), (8, .val (.int .i64 (5 - ((t + 1 : Nat) : Int)))), (10, .val (.int .i64 j))], fblk r1 lf sf lb sb, 1, μ, J d⟩) (fun p => b - p.1)
          (i' + 1, d3) ⟨by dsimp only; omega, by dsimp only; omega, hs3, hE⟩ (fun (_, _) => ⟨rfl, rfl⟩) ⟨⟨rfl, rfl, rfl, rfl, rfl, rfl, trivial⟩, ⟨rfl, trivial⟩, rfl, rfl⟩ ?_
        clear hE
        rintro ⟨j2, d5⟩ ⟨hj2, hjb2, hs5, hE⟩
        dsimp only at hj2 hjb2 hs5 hE
        rw [shiftUp] at hE
        refine ifd (fun hj1 => ?_) (fun hj1 => ?_)
        · rw [if_pos (by omega)] at hE
          refine num_eq (x := ((j2 - 1 : Nat) : Int)) (by rw [wrap64 (by omega) (by omega)]; omega) ?_
          refine call_own (H.less hle hs5 (i := j2) (j := j2 - 1) (by omega) (by omega)) fun v μ' h' hle' hap hR => ?_
          obtain ⟨rfl, e2, rfl⟩ := hR
          obtain rfl := e2.symm
          clear hle' hap
          refine if_intro (fun hl3 => ?_) (fun hl3 => ?_)
          · rw [if_pos hl3] at hE
            obtain rfl := hE
            refine num_eq (x := 5 - (t : Int)) (by rw [wrap64 (by omega) (by omega)]; omega) ?_
            exact ⟨(t, i', d5), ⟨by dsimp only; omega, by dsimp only; omega, by dsimp only; omega, hs5, hR⟩, by dsimp only; omega, ⟨⟨rfl, rfl, rfl, rfl, rfl, trivial⟩, ⟨rfl, trivial⟩, rfl, rfl⟩⟩
          · rw [if_neg (by simp only [hl3]; simp)] at hE
            refine num_eq (x := ((j2 - 1 : Nat) : Int)) (by rw [wrap64 (by omega) (by omega)]; omega) ?_
            refine call_own (H.swap hle hs5 (i := j2) (j := j2 - 1) (by omega) (by omega)) fun v μ' h' hle' hap hR => ?_
            obtain ⟨rfl, e2, rfl⟩ := hR
            obtain rfl := e2.symm
            clear hle' hap
            refine num_eq (x := ((j2 + 1 : Nat) : Int)) (by rw [wrap64 (by omega) (by omega)]; omega) ?_
            exact ⟨(j2 + 1, swp d5 j2 (j2 - 1)), ⟨by dsimp only; omega, by dsimp only; omega, H.sw hs5 (by omega) (by omega), hE⟩, by dsimp only; omega, ⟨⟨rfl, rfl, rfl, rfl, rfl, rfl, trivial⟩, ⟨rfl, trivial⟩, rfl, rfl⟩⟩
        · rw [if_neg (by omega)] at hE
          obtain rfl := hE
          refine num_eq (x := 5 - (t : Int)) (by rw [wrap64 (by omega) (by omega)]; omega) ?_
          exact ⟨(t, i', d5), ⟨by dsimp only; omega, by dsimp only; omega, by dsimp only; omega, hs5, hR⟩, by dsimp only; omega, ⟨⟨rfl, rfl, rfl, rfl, rfl, trivial⟩, ⟨rfl, trivial⟩, rfl, rfl⟩⟩
      · rw [if_neg (by omega)] at hR
        refine num_eq (x := 5 - (t : Int)) (by rw [wrap64 (by omega) (by omega)]; omega) ?_
        exact ⟨(t, i', d3), ⟨by dsimp only; omega, by dsimp only; omega, by dsimp only; omega, hs3, hR⟩, by dsimp only; omega, ⟨⟨rfl, rfl, rfl, rfl, rfl, trivial⟩, ⟨rfl, trivial⟩, rfl, rfl⟩⟩
  · rw [if_neg (by omega)] at hR
    refine num_eq (x := ((b - i' : Nat) : Int)) (by rw [wrap64 (by omega) (by omega)]; omega) ?_
    unfold fixUp at hR
    refine ifd (fun hu2 => ?_) (fun hu2 => ?_)
    · rw [if_pos (by omega)] at hR
      refine num_eq (x := ((i' + 1 : Nat) : Int)) (by rw [wrap64 (by omega) (by omega)]; omega) ?_
      generalize hE : shiftUp lt b (i' + 1) d2 = D4 at *
      refine loop_intro (fun p : Nat × Array α => i' + 1 ≤ p.1 ∧ p.1 ≤ b + 1 ∧ V p.2 ∧ shiftUp lt b p.1 p.2 = D4) (fun (j, d) => ⟨[(1, .val (.int .i64 a)), (2, .val (.int .i64 b)), (3, .loc 0 r1 0), (7, .val (.int .i64 i')), (8, .val (.int .i64 (5 - ((t + 1 : Nat) : Int)))), (10, .val (.int .i64 j))], fblk r1 lf sf lb sb, 1, μ, J d⟩) (fun p => b - p.1)
        (i' + 1, d2) ⟨by dsimp only; omega, by dsimp only; omega, hs2, hE⟩ (fun (_, _) => ⟨rfl, rfl⟩) ⟨⟨rfl, rfl, rfl, rfl, rfl, rfl, trivial⟩, ⟨rfl, trivial⟩, rfl, rfl⟩ ?_
      clear hE
      rintro ⟨j2, d5⟩ ⟨hj2, hjb2, hs5, hE⟩
      dsimp only at hj2 hjb2 hs5 hE
      rw [shiftUp] at hE
      refine ifd (fun hj1 => ?_) (fun hj1 => ?_)
      · rw [if_pos (by omega)] at hE
        refine num_eq (x := ((j2 - 1 : Nat) : Int)) (by rw [wrap64 (by omega) (by omega)]; omega) ?_
        refine call_own (H.less hle hs5 (i := j2) (j := j2 - 1) (by omega) (by omega)) fun v μ' h' hle' hap hR => ?_
        obtain ⟨rfl, e2, rfl⟩ := hR
        obtain rfl := e2.symm
        clear hle' hap
        refine if_intro (fun hl3 => ?_) (fun hl3 => ?_)
        · rw [if_pos hl3] at hE
          obtain rfl := hE
          refine num_eq (x := 5 - (t : Int)) (by rw [wrap64 (by omega) (by omega)]; omega) ?_
          exact ⟨(t, i', d5), ⟨by dsimp only; omega, by dsimp only; omega, by dsimp only; omega, hs5, hR⟩, by dsimp only; omega, ⟨⟨rfl, rfl, rfl, rfl, rfl, trivial⟩, ⟨rfl, trivial⟩, rfl, rfl⟩⟩
        · rw [if_neg (by simp only [hl3]; simp)] at hE
          refine num_eq (x := ((j2 - 1 : Nat) : Int)) (by rw [wrap64 (by omega) (by omega)]; omega) ?_
          refine call_own (H.swap hle hs5 (i := j2) (j := j2 - 1) (by omega) (by omega)) fun v μ' h' hle' hap hR => ?_
          obtain ⟨rfl, e2, rfl⟩ := hR
          obtain rfl := e2.symm
          clear hle' hap
          refine num_eq (x := ((j2 + 1 : Nat) : Int)) (by rw [wrap64 (by omega) (by omega)]; omega) ?_
          exact ⟨(j2 + 1, swp d5 j2 (j2 - 1)), ⟨by dsimp only; omega, by dsimp only; omega, H.sw hs5 (by omega) (by omega), hE⟩, by dsimp only; omega, ⟨⟨rfl, rfl, rfl, rfl, rfl, rfl, trivial⟩, ⟨rfl, trivial⟩, rfl, rfl⟩⟩
      · rw [if_neg (by omega)] at hE
        obtain rfl := hE
        refine num_eq (x := 5 - (t : Int)) (by rw [wrap64 (by omega) (by omega)]; omega) ?_
        exact ⟨(t, i', d5), ⟨by dsimp only; omega, by dsimp only; omega, by dsimp only; omega, hs5, hR⟩, by dsimp only; omega, ⟨⟨rfl, rfl, rfl, rfl, rfl, trivial⟩, ⟨rfl, trivial⟩, rfl, rfl⟩⟩
    · rw [if_neg (by omega)] at hR
      refine num_eq (x := 5 - (t : Int)) (by rw [wrap64 (by omega) (by omega)]; omega) ?_
      exact ⟨(t, i', d2), ⟨by dsimp only; omega, by dsimp only; omega, by dsimp only; omega, hs2, hR⟩, by dsimp only; omega, ⟨⟨rfl, rfl, rfl, rfl, rfl, trivial⟩, ⟨rfl, trivial⟩, rfl, rfl⟩⟩
end
end Go.Vx
