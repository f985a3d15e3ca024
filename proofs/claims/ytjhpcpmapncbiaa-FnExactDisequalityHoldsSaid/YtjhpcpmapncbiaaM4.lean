/- Texts of the proof, part 4: Wa Wc Wd Wb We Vt2 Wh Wi. -/
import Derived.Test.YtjhpcpmapncbiaaM3
/- Contracts: the program's put and Instantiate. -/
namespace Go.Vx
open Go.Proofs Classical
theorem Srt.tail {b : B} {bs : List B} (h : Srt (b :: bs)) : Srt bs := fun i j c d hij hc hd => h (i + 1) (j + 1) c d (by omega) (by simpa using hc) (by simpa using hd)
theorem sub_some : ∀ {bs : List B} (_ : Srt bs) {i : Nat} {b : B} {n : Int}, bs[i]? = some b → b.var = n → sub bs n = some b.to
  | [], _, i, b, n, h, _ => by simp at h
  | c :: bs, hs, 0, b, n, h, e => by
    simp only [List.getElem?_cons_zero, Option.some.injEq] at h
    subst h
    rw [sub, if_pos e]
  | c :: bs, hs, i + 1, b, n, h, e => by
    have := hs 0 (i + 1) c b (by omega) rfl h
    rw [sub, if_neg (by omega)]
    exact sub_some hs.tail (by simpa using h) e
theorem sub_none : ∀ {bs : List B} {n : Int}, (∀ b ∈ bs, b.var ≠ n) → sub bs n = none
  | [], _, _ => rfl
  | c :: bs, n, h => by
    rw [sub, if_neg (h c (by simp))]
    exact sub_none fun b hb => h b (by simp [hb])
theorem sub_ok : ∀ {bs : List B} (_ : ∀ b ∈ bs, b.to.ok) {n : Int} {y : T}, sub bs n = some y → y.ok
  | [], _, n, y, h => by simp [sub] at h
  | c :: bs, hk, n, y, h => by
    rw [sub] at h
    split at h
    · cases h; exact hk c (by simp)
    · exact sub_ok (fun b hb => hk b (by simp [hb])) h
theorem valsOk.srt {l : List Bd} (h : valsOk l) : Srt (l.map Bd.b) := by
  intro i j b c hij hb hc
  simp only [List.getElem?_map, Option.map_eq_some_iff] at hb hc
  obtain ⟨b, hb, rfl⟩ := hb
  obtain ⟨c, hc, rfl⟩ := hc
  show b.var < c.var
  induction j generalizing c with
  | zero => omega
  | succ j ih =>
    have hj : j < l.length := by have := (List.getElem?_eq_some_iff.1 hc).1; omega
    obtain ⟨d, hd⟩ := at_some hj
    have h1 := (h.2 (j + 1) c hc).2.2 j d rfl hd
    rcases Nat.lt_or_ge i j with h2 | h2
    · have := ih h2 d hd; omega
    · obtain rfl : i = j := by omega
      rw [hb] at hd; cases hd; exact h1
section
variable {μ : Mem}
theorem put1_looks {bs : List B} {base : Option Addr} {cap : Nat} {r : Nat} {ty : TypeId} (hs : Srt bs) (hlen : bs.length ≤ 1000000000) (hsl : Sl μ 5 base bs.length ((bs.map B.bd).map Bd.d)) (h : μ r = some (.cells #[.slice base bs.length cap] ty (0, 0))) :
    Looks 156 [.pointer (some ⟨r, 0, none⟩)] μ (sub bs) := fun μ' hle n => by
  have hsl := hsl.mono hle
  have h : μ' r = _ := hle _ _ h
  refine Spec.mk Try.func156 (by kernel_rfl) ?_
  intro r1
  refine ext_intro [.slice base bs.length cap] rfl (box_at h) ?_
  refine call_plain (find_spec hs hlen hsl) fun v μ2 hle2 hR => ?_
  obtain ⟨hR, e2⟩ := hR
  obtain rfl := e2.symm
  rcases hR with ⟨i, b, rfl, hb, hn⟩ | ⟨rfl, hno⟩
  · rw [sub_some hs hb hn]
    obtain ⟨ad, p, hel, hto⟩ := B.elem hsl hb
    refine ifd (fun _ => ?_) (fun h => absurd h (by omega))
    refine ext_intro [.slice base bs.length cap] rfl (box_at h) ?_
    refine elem_intro hel ?_
    exact ret_plain ⟨_, rfl, hto⟩
  · rw [sub_none hno]
    refine ifd (fun h => absurd h (by omega)) (fun _ => ?_)
    exact ret_plain rfl
theorem replaced1_counts {k : FuncId} {caps : List Value} {f : Int → Option T} {r : Nat} {ty : TypeId} (hk : Looks k caps μ f) (hf : ∀ n y, f n = some y → y.ok) (h : μ r = some (.cells #[.func (.func k) #[] caps.toArray] ty (0, 0))) :
    Counts 202 [.pointer (some ⟨r, 0, none⟩)] μ (cntOf f) := fun n => by
  refine (Spec.forget (R := fun v => v = .int .i64 (cntOf f n)) (Spec.mk Try.func202 (by kernel_rfl) ?_))
  refine ext_intro [.func (.func k) #[] caps.toArray] rfl (box_at h) ?_
  refine call_plain (hk μ (Mem.Le.refl μ) n) fun v μ1 hle1 hR => ?_
  simp only [cntOf]
  cases hs : f n with
  | some y =>
    rw [hs] at hR
    obtain ⟨tv, rfl, htv⟩ := hR
    obtain ⟨q, rfl⟩ := Tm.invV htv
    intro r3
    refine if_intro (fun _ => ?_) (fun h => nomatch h)
    refine call_gives (nodesOf_spec y.tm htv (by decide) (by decide)) ?_
    have hy := (hf n y hs).tm
    rw [Tm.nodes_pos hy.1 (by have := hy.2; omega), T.cnt_tm]
    exact ret_plain rfl
  | none =>
    rw [hs] at hR
    obtain rfl := hR
    intro r3
    refine if_intro (fun h => nomatch h) (fun _ => ?_)
    exact ret_plain rfl
/-- A substituted term, if it is not too big. -/
noncomputable def fit (x : T) : Option T := if x.size ≤ 5000 then some x else none
theorem replaced_spec {k : FuncId} {caps : List Value} {f : Int → Option T} (x : T) {v : Value} (hk : Looks k caps μ f) (hf : ∀ n y, f n = some y → y.ok) (hv : RepV μ x.tm.d v) :
    Spec Try.prog 155 [v, .func (.func k) #[] caps.toArray] μ fun v μ' => optV (fun y tv => Fresh μ μ' y.tm.d tv) (fit (x.subst f)) v := by
  obtain ⟨p, rfl⟩ := Tm.invV hv
  have hc : ∀ n, cntOf f n ≤ 5000 := fun n => by
    simp only [cntOf]
    split
    · rename_i y hy
      exact (hf n y hy).2
    · omega
  refine Spec.mk Try.func155 (by kernel_rfl) ?_
  intro r1 r2 r3
  refine call_frz [1] ?_
  intro μ1 hle1 hno1 hat1
  have hk1 : Looks k caps μ1 f := fun μ' h => hk μ' (hle1.trans h)
  refine call_go (sizeWith_spec (replaced1_counts hk1 hf hat1) hc x (hv.mono hle1)) fun v μ2 hle2 hR => ?_
  obtain ⟨rfl, e2⟩ := hR
  obtain rfl := e2.symm
  refine ifd (fun h => ?_) (fun h => ?_)
  · rw [fit, if_neg (by omega)]
    exact ret_plain rfl
  · rw [fit, if_pos (by omega)]
    refine ext_intro [.func (.func k) #[] caps.toArray] rfl (box_at hat1) ?_
    refine call_plain (mapVars_spec x hk1 (hv.mono hle1)) fun v2 μ3 hle3 hR3 => ?_
    obtain ⟨q, rfl⟩ := Tm.invV hR3.rep
    exact ret_plain ⟨_, rfl, hR3.mono hle1 (Mem.Le.refl _)⟩
theorem put_spec {bs : List B} {base : Option Addr} {cap : Nat} (x : T) {v : Value} (hs : Srt bs) (hlen : bs.length ≤ 1000000000) (hk : ∀ b ∈ bs, b.to.ok) (hsl : Sl μ 5 base bs.length ((bs.map B.bd).map Bd.d)) (hv : RepV μ x.tm.d v) :
    Spec Try.prog 77 [.slice base bs.length cap, v] μ fun v μ' => optV (fun y tv => Fresh μ μ' y.tm.d tv) (fit (x.subst (sub bs))) v := by
  obtain ⟨p, rfl⟩ := Tm.invV hv
  refine Spec.mk Try.func77 (by kernel_rfl) ?_
  intro r1 r2 r3
  refine call_frz [0] ?_
  intro μ1 hle1 hno1 hat1
  refine call_go (replaced_spec x (put1_looks hs hlen (hsl.mono hle1) hat1) (fun n y h => sub_ok hk h) (hv.mono hle1)) fun v μ2 hle2 hR => ?_
  cases hf : fit (x.subst (sub bs)) with
  | some y =>
    rw [hf] at hR
    obtain ⟨tv, rfl, htv⟩ := hR
    obtain ⟨q, rfl⟩ := Tm.invV htv.rep
    exact ret_plain ⟨_, rfl, htv.mono hle1 (Mem.Le.refl _)⟩
  | none =>
    rw [hf] at hR
    obtain rfl := hR
    exact ret_plain rfl
end
end Go.Vx

/- Contracts: terms compared. -/
namespace Go.Vx
open Go.Proofs Classical
def sgn (b : Bool) : Int := if b then -1 else 1
/-- The comparison of two terms' own fields, then the rest. -/
noncomputable def hdCmp (x y : Tm) (rest : Int) : Int :=
  if x.kind ≠ y.kind then sgn (decide (x.kind < y.kind)) else if x.num ≠ y.num then sgn (decide (x.num < y.num)) else if x.name ≠ y.name then sgn (Op.bytesLess x.name.data.toList y.name.data.toList) else rest
noncomputable def T.cmp : T → T → Int
  | .pair a b, .pair c d => if a.cmp c = 0 then b.cmp d else a.cmp c
  | .pair a b, .nil => hdCmp (T.pair a b).tm T.nil.tm 0
  | .pair a b, .var n => hdCmp (T.pair a b).tm (T.var n).tm 0
  | .pair a b, .sym n => hdCmp (T.pair a b).tm (T.sym n).tm 0
  | .pair a b, .num n => hdCmp (T.pair a b).tm (T.num n).tm 0
  | .nil, y => hdCmp T.nil.tm y.tm 0
  | .var n, y => hdCmp (T.var n).tm y.tm 0
  | .sym n, y => hdCmp (T.sym n).tm y.tm 0
  | .num n, y => hdCmp (T.num n).tm y.tm 0
theorem sgn_ne (b : Bool) : sgn b ≠ 0 := by cases b <;> simp [sgn]
theorem hdCmp_zero {x y : Tm} {r : Int} : hdCmp x y r = 0 ↔ x.kind = y.kind ∧ x.num = y.num ∧ x.name = y.name ∧ r = 0 := by
  unfold hdCmp
  split
  · rename_i h; exact ⟨fun k => absurd k (sgn_ne _), fun k => absurd k.1 h⟩
  · split
    · rename_i h; exact ⟨fun k => absurd k (sgn_ne _), fun k => absurd k.2.1 h⟩
    · split
      · rename_i h; exact ⟨fun k => absurd k (sgn_ne _), fun k => absurd k.2.2.1 h⟩
      · rename_i h1 h2 h3
        exact ⟨fun k => ⟨Classical.not_not.1 h1, Classical.not_not.1 h2, Classical.not_not.1 h3, k⟩, fun k => k.2.2.2⟩
theorem T.cmp_zero : ∀ x y : T, x.cmp y = 0 ↔ x = y := by
  intro x
  induction x with
  | pair a b iha ihb =>
    intro y
    cases y with
    | pair c d =>
      rw [T.cmp, T.pair.injEq, ← iha, ← ihb]
      split
      · rename_i h; exact ⟨fun k => ⟨h, k⟩, fun k => k.2⟩
      · rename_i h; exact ⟨fun k => absurd k h, fun k => absurd k.1 h⟩
    | _ => rw [T.cmp, hdCmp_zero]; simp [T.tm, Tm.kind]
  | _ =>
    intro y
    rw [T.cmp, hdCmp_zero]
    cases y <;> simp [T.tm, Tm.kind, Tm.num, Tm.name]
theorem hd1 {x y : Tm} {r : Int} (h : ¬ x.kind = y.kind) : hdCmp x y r = sgn (decide (x.kind < y.kind)) := by rw [hdCmp, if_pos h]
theorem hd2 {x y : Tm} {r : Int} (h1 : x.kind = y.kind) (h : ¬ x.num = y.num) : hdCmp x y r = sgn (decide (x.num < y.num)) := by rw [hdCmp, if_neg (fun k => k h1), if_pos h]
theorem hd3 {x y : Tm} {r : Int} (h1 : x.kind = y.kind) (h2 : x.num = y.num) (h : ¬ x.name = y.name) : hdCmp x y r = sgn (Op.bytesLess x.name.data.toList y.name.data.toList) := by rw [hdCmp, if_neg (fun k => k h1), if_neg (fun k => k h2), if_pos h]
theorem hd4 {x y : Tm} {r : Int} (h1 : x.kind = y.kind) (h2 : x.num = y.num) (h : x.name = y.name) : hdCmp x y r = r := by rw [hdCmp, if_neg (fun k => k h1), if_neg (fun k => k h2), if_neg (fun k => k h)]
section
variable {μ : Mem}
theorem orderInts_spec (a b : Int) (h : ¬ a = b) : Gives Try.prog 182 [.int .i64 a, .int .i64 b] μ (.int .i64 (sgn (decide (a < b)))) := by
  refine Spec.mk Try.func182 (by kernel_rfl) ?_
  refine ifd (fun h1 => ret_gives ?_ rfl) (fun h1 => ?_)
  · rw [decide_eq_true h1]; rfl
  refine ifd (fun h2 => ret_gives ?_ rfl) (fun h2 => by omega)
  rw [decide_eq_false h1]; rfl
theorem l02Sign_spec (b : Bool) : Gives Try.prog 203 [.bool b] μ (.int .i64 (sgn b)) := by
  refine Spec.mk Try.func203 (by kernel_rfl) ?_
  refine if_intro (fun h1 => ret_gives ?_ rfl) (fun h1 => ret_gives ?_ rfl)
  · rw [h1]; rfl
  · rw [h1]; rfl
noncomputable def T.rest : T → T → Int
  | .pair a b, .pair c d => if a.cmp c = 0 then b.cmp d else a.cmp c
  | _, _ => 0
theorem T.cmp_eq (x y : T) : x.cmp y = hdCmp x.tm y.tm (x.rest y) := by
  cases x with
  | pair a b =>
    cases y with
    | pair c d => rw [T.cmp, hd4 (x := (T.pair a b).tm) (y := (T.pair c d).tm) rfl rfl rfl]; rfl
    | _ => rw [T.cmp]; rfl
  | _ => rw [T.cmp]; rfl
theorem T.rest_at {x y : T} {i : Nat} {p q : T} (h : ∀ j p q, j < i → x.args[j]? = some p → y.args[j]? = some q → p.cmp q = 0) (hp : x.args[i]? = some p) (hq : y.args[i]? = some q) (hne : p.cmp q ≠ 0) : x.rest y = p.cmp q := by
  cases x with
  | pair a b =>
    cases y with
    | pair c d =>
      simp only [T.rest]
      match i, hp, hq with
      | 0, hp, hq => cases hp; cases hq; rw [if_neg hne]
      | 1, hp, hq =>
        cases hp; cases hq
        have := h 0 a c (by omega) rfl rfl
        rw [if_pos this]
      | i + 2, hp, hq => simp [T.args] at hp
    | _ => simp [T.args] at hq
  | _ => simp [T.args] at hp
theorem T.rest_zero {x y : T} (h : ∀ (j : Nat) p q, j < x.args.length → x.args[j]? = some p → y.args[j]? = some q → p.cmp q = 0) : x.rest y = 0 := by
  cases x with
  | pair a b =>
    cases y with
    | pair c d =>
      have h0 := h 0 a c (by simp [T.args]) rfl rfl
      have h1 := h 1 b d (by simp [T.args]) rfl rfl
      simp only [T.rest]
      rw [if_pos h0, h1]
    | _ => rfl
  | _ => rfl
theorem T.args_kind {x y : T} (h : x.tm.kind = y.tm.kind) : x.args.length = y.args.length := by
  cases x <;> cases y <;> simp_all [T.tm, Tm.kind, T.args]
theorem T.kind4 {x : T} (h : x.tm.kind = 4) : ∃ a b, x = .pair a b := by
  cases x <;> simp_all [T.tm, Tm.kind]
theorem T.arg {μ : Mem} {x : T} {base : Option Addr} (h : Sl μ 4 base x.args.length ((x.args.map T.tm).map Tm.d)) {i : Nat} {y : T} (hy : x.args[i]? = some y) : ∃ ad, ∃ p : Option Addr × Nat, ElemAt μ base x.args.length 4 i ad (y.tm.cs p) ∧ RepV μ y.tm.d (.agg (y.tm.cs p).toArray) :=
  Tm.elem h (by simp [hy])
theorem orderTerms_spec : ∀ (x y : T) {v w : Value}, RepV μ x.tm.d v → RepV μ y.tm.d w → Gives Try.prog 158 [v, w] μ (.int .i64 (x.cmp y)) :=
  T.ind fun x ih y v w hv hw => by
    obtain ⟨b1, c1, rfl, hs1⟩ := T.inv hv
    obtain ⟨b2, c2, rfl, hs2⟩ := T.inv hw
    rw [T.cmp_eq]
    refine Spec.mk Try.func158 (by kernel_rfl) ?_
    intro r1 r2
    refine ifnd (fun h => ?_) (fun h1 => ?_)
    · exact call_gives (orderInts_spec _ _ h) (ret_gives (by rw [hd1 h]) rfl)
    refine ifnd (fun h => ?_) (fun h2 => ?_)
    · exact call_gives (orderInts_spec _ _ h) (ret_gives (by rw [hd2 h1 h]) rfl)
    refine ifnd (fun h => ?_) (fun h3 => ?_)
    · refine if_intro (fun h4 => ret_gives ?_ rfl) (fun h4 => ret_gives ?_ rfl)
      · rw [hd3 h1 h2 h, h4]; rfl
      · rw [hd3 h1 h2 h, h4]; rfl
    rw [hd4 h1 h2 h3]
    refine ifnd (fun h => ?_) (fun h4 => ?_)
    · refine ret_gives ?_ rfl
      have : x.rest y = 0 := by cases x <;> first | rfl | exact absurd rfl h
      rw [this]
    obtain ⟨a, b, rfl⟩ := T.kind4 h4
    obtain ⟨c, d, rfl⟩ := T.kind4 (h1 ▸ h4)
    obtain ⟨ad1, p1, e1, g1⟩ := T.arg hs1 (i := 0) rfl
    obtain ⟨ad2, p2, e2, g2⟩ := T.arg hs2 (i := 0) rfl
    obtain ⟨ad3, p3, e3, g3⟩ := T.arg hs1 (i := 1) rfl
    obtain ⟨ad4, p4, e4, g4⟩ := T.arg hs2 (i := 1) rfl
    refine elem_intro e1 (elem_intro e2 (call_gives (ih a (by simp [T.args]) c g1 g2) ?_))
    simp only [T.rest]
    refine ifnd (fun h => ?_) (fun h5 => ?_)
    · rw [if_neg h]; exact ret_gives rfl rfl
    · rw [if_pos h5]
      exact elem_intro e3 (elem_intro e4 (call_gives (ih b (by simp [T.args]) d g3 g4) (ret_gives rfl rfl)))
theorem l02Cmp_spec : ∀ (x y : T) {v w : Value}, RepV μ x.tm.d v → RepV μ y.tm.d w → Gives Try.prog 157 [v, w] μ (.int .i64 (x.cmp y)) :=
  T.ind fun x ih y v w hv hw => by
    obtain ⟨b1, c1, rfl, hs1⟩ := T.inv hv
    obtain ⟨b2, c2, rfl, hs2⟩ := T.inv hw
    have hn := T.args_le x
    rw [T.cmp_eq]
    refine Spec.mk Try.func157 (by kernel_rfl) ?_
    intro r1 r2
    refine ifnd (fun h => ?_) (fun h1 => ?_)
    · exact call_gives (l02Sign_spec _) (ret_gives (by rw [hd1 h]) rfl)
    refine ifnd (fun h => ?_) (fun h2 => ?_)
    · exact call_gives (l02Sign_spec _) (ret_gives (by rw [hd2 h1 h]) rfl)
    refine ifnd (fun h => ?_) (fun h3 => ?_)
    · exact call_gives (l02Sign_spec _) (ret_gives (by rw [hd3 h1 h2 h]) rfl)
    rw [hd4 h1 h2 h3]
    have hlen := T.args_kind h1
    refine loop_intro (fun i : Nat => i ≤ x.args.length ∧ ∀ j p q, j < i → x.args[j]? = some p → y.args[j]? = some q → p.cmp q = 0) (fun i => ⟨[(2, .loc 0 r1 0), (3, .loc 1 r2 0), (5, .val (.int .i64 i))], [(0, some (.cells r1 [.val (.int .i64 x.tm.kind), .val (.int .i64 x.tm.num), .val (.string x.tm.name), .val (.slice b1 x.args.length c1)] 30)), (1, some (.cells r2 [.val (.int .i64 y.tm.kind), .val (.int .i64 y.tm.num), .val (.string y.tm.name), .val (.slice b2 y.args.length c2)] 30))], 2, μ, Mem.nil⟩) (fun i => x.args.length - i)
      0 ⟨by omega, fun j p q hj => by omega⟩ (fun i => ⟨rfl, rfl⟩) ⟨⟨rfl, rfl, rfl, trivial⟩, ⟨rfl, rfl, trivial⟩, rfl, rfl⟩ ?_
    rintro i ⟨hi, hz⟩
    refine ifd (fun h => ?_) (fun h => ?_)
    · refine ifd (fun h' => ?_) (fun h' => by omega)
      obtain ⟨p, hp⟩ := at_some (l := x.args) (i := i) (by omega)
      obtain ⟨q, hq⟩ := at_some (l := y.args) (i := i) (by omega)
      obtain ⟨ad1, p1, e1, g1⟩ := T.arg hs1 hp
      obtain ⟨ad2, p2, e2, g2⟩ := T.arg hs2 hq
      refine elem_intro e1 (elem_intro e2 (call_gives (ih p (mem_at hp) q g1 g2) ?_))
      refine ifnd (fun h5 => ?_) (fun h5 => ?_)
      · rw [T.rest_at hz hp hq h5]; exact ret_gives rfl rfl
      · refine num64 (by omega) (by omega) ⟨i + 1, ⟨by omega, fun j p' q' hj hp' hq' => ?_⟩, by omega, ⟨⟨rfl, rfl, rfl, trivial⟩, ⟨rfl, rfl, trivial⟩, rfl, rfl⟩⟩
        rcases Nat.lt_or_ge j i with h6 | h6
        · exact hz j p' q' h6 hp' hq'
        · obtain rfl : j = i := by omega
          rw [hp] at hp'; rw [hq] at hq'; cases hp'; cases hq'; exact h5
    · obtain rfl : i = x.args.length := by omega
      rw [T.rest_zero hz]
      exact ret_gives rfl rfl
theorem equalTerms_spec (x y : T) {v w : Value} (hv : RepV μ x.tm.d v) (hw : RepV μ y.tm.d w) : Gives Try.prog 85 [v, w] μ (.bool (decide (x = y))) := by
  obtain ⟨p, rfl⟩ := Tm.invV hv
  obtain ⟨q, rfl⟩ := Tm.invV hw
  refine Spec.mk Try.func85 (by kernel_rfl) ?_
  intro r1 r2
  exact call_gives (orderTerms_spec x y hv hw) (ret_gives (isI (T.cmp_zero x y)) rfl)
theorem l02Same_spec (x y : T) {v w : Value} (hv : RepV μ x.tm.d v) (hw : RepV μ y.tm.d w) : Gives Try.prog 82 [v, w] μ (.bool (decide (x = y))) := by
  obtain ⟨p, rfl⟩ := Tm.invV hv
  obtain ⟨q, rfl⟩ := Tm.invV hw
  refine Spec.mk Try.func82 (by kernel_rfl) ?_
  intro r1 r2
  exact call_gives (l02Cmp_spec x y hv hw) (ret_gives (isI (T.cmp_zero x y)) rfl)
/-- A variable as a term. -/
def varV (n : Int) : Value := .agg #[.int .i64 1, .int .i64 n, .string ⟨#[]⟩, .slice none 0 0]
theorem varV_own (n : Int) : OwnV (T.var n).tm.d Mem.nil (varV n) := by
  rw [T.d_eq]
  exact ⟨_, rfl, OwnS.int (OwnS.int (OwnS.str (OwnS.last (Own.nilSl 4))))⟩
theorem varV_rep (n : Int) : RepV μ (T.var n).tm.d (varV n) := (varV_own n).rep (fun _ _ h => nomatch h)
theorem variable_spec (n : Int) : Gives Try.prog 84 [.int .i64 n] μ (varV n) := by
  refine Spec.mk Try.func84 (by kernel_rfl) ?_
  intro r1
  exact ret_gives rfl rfl
theorem l02Var_spec (n : Int) : Gives Try.prog 81 [.int .i64 n] μ (varV n) := by
  refine Spec.mk Try.func81 (by kernel_rfl) ?_
  intro r1
  exact ret_gives rfl rfl
end
end Go.Vx

/- Contracts: which substitutions are fine. -/
namespace Go.Vx
open Go.Proofs Classical
/-! ### Plain -/
def bndOk (bs : List B) (b : B) : Prop := ¬ (b.to.tm.kind = 1 ∧ b.var ≤ b.to.tm.num) ∧ ∀ n ∈ b.to.vars, sub bs n = none
def substOk (l : List Bd) : Prop := valsOk l ∧ ∀ b ∈ l.map Bd.b, bndOk (l.map Bd.b) b
theorem B.bd_b (b : B) : b.bd.b = b := by
  cases b; simp [B.bd, Bd.b, T.toT_tm]
theorem B.map_b (bs : List B) : (bs.map B.bd).map Bd.b = bs := by
  rw [List.map_map]
  conv => rhs; rw [← List.map_id bs]
  exact List.map_congr_left fun b _ => B.bd_b b
/-- A fine list of bindings, as terms. -/
structure Vals (bs : List B) : Prop where
  ok : valsOk (bs.map B.bd)
theorem Vals.len {bs : List B} (h : Vals bs) : bs.length ≤ 400 := by have := h.ok.1; simpa using this
theorem Vals.srt {bs : List B} (h : Vals bs) : Srt bs := by have := h.ok.srt; rwa [B.map_b] at this
theorem Vals.tok {bs : List B} (h : Vals bs) : ∀ b ∈ bs, b.to.ok := by have := h.ok.lift.2; rwa [B.map_b] at this
theorem Vals.var {bs : List B} (h : Vals bs) : ∀ b ∈ bs, 0 ≤ b.var ∧ b.var ≤ 100000 := fun b hb => by
  obtain ⟨i, hi⟩ := List.mem_iff_getElem?.1 hb
  exact (h.ok.2 i b.bd (by simp [hi])).1
theorem valsOk.vals {l : List Bd} (h : valsOk l) : ∃ bs : List B, l = bs.map B.bd ∧ Vals bs := ⟨l.map Bd.b, h.lift.1.symm, ⟨by rw [h.lift.1]; exact h⟩⟩
structure Subst (bs : List B) : Prop where
  vals : Vals bs
  bnd : ∀ b ∈ bs, bndOk bs b
theorem substOk_iff (bs : List B) : substOk (bs.map B.bd) ↔ Subst bs := by
  unfold substOk
  rw [B.map_b]
  exact ⟨fun h => ⟨⟨h.1⟩, h.2⟩, fun h => ⟨h.1.1, h.2⟩⟩
theorem substOk.subst {l : List Bd} (h : substOk l) : ∃ bs : List B, l = bs.map B.bd ∧ Subst bs := by
  obtain ⟨bs, rfl, _⟩ := h.1.vals
  exact ⟨bs, rfl, (substOk_iff bs).1 h⟩
section
variable {μ : Mem}
theorem spec_SubstOk_spec {l : List Bd} {base : Option Addr} {cap : Nat} (hsl : Sl μ 5 base l.length (l.map Bd.d)) (hw : D.wds (l.map Bd.d)) : Gives Try.prog 70 [.slice base l.length cap] μ (.bool (decide (substOk l))) := by
  refine Spec.forget (Spec.mk Try.func70 (by kernel_rfl) ?_)
  refine call_gives (l04Values_spec hsl hw) ?_
  refine ifnd (fun h => ret_plain (isF fun k => h k.1)) (fun hv => ?_)
  obtain ⟨bs, rfl, hbs⟩ := hv.vals
  rw [List.length_map] at hsl ⊢
  have hn := hbs.len
  refine loop_intro (fun p : Nat × Mem => p.1 ≤ bs.length ∧ μ.Le p.2 ∧ ∀ (j : Nat) b, j < p.1 → bs[j]? = some b → bndOk bs b)
    (fun (i, μ') => ⟨[(0, .val (.slice base bs.length cap)), (12, .val (.slice base bs.length cap)), (13, .val (.int .i64 bs.length)), (14, .val (.int .i64 i))], [], 0, μ', Mem.nil⟩) (fun p => bs.length - p.1)
    (0, μ) ⟨by simp, Mem.Le.refl μ, fun j b hj => by simp at hj⟩ (fun (_, _) => ⟨rfl, rfl⟩) ⟨⟨rfl, rfl, rfl, rfl, trivial⟩, trivial, rfl, rfl⟩ ?_
  rintro ⟨i, μ'⟩ ⟨hi, hle, hall⟩
  dsimp only at hi hle hall
  refine ifd (fun h => ?_) (fun h => ?_)
  · obtain ⟨b, hb⟩ := at_some (l := bs) (i := i) (by omega)
    obtain ⟨ad, p, hel, hto⟩ := B.elem (hsl.mono hle) hb
    have hsz := (hbs.tok b (mem_at hb)).2
    have hvs := T.vars_size b.to
    have bad : ¬ bndOk bs b → Value.bool false = .bool (decide (substOk (bs.map B.bd))) := fun k => isF fun hs => k (((substOk_iff bs).1 hs).bnd b (mem_at hb))
    refine elem_intro hel ?_
    intro r
    refine ifd (fun h1 => ?_) (fun h1 => ?_)
    · refine ifd (fun h2 => ret_plain (bad fun k => k.1 ⟨h1, h2⟩)) (fun h2 => ?_)
      have hk : ¬ (b.to.tm.kind = 1 ∧ b.var ≤ b.to.tm.num) := fun k => h2 k.2
      refine call_plain (l02Vars_spec b.to (l := []) hto (Rep.nilSl 1) (by simp; omega)) fun v μ2 hle2 hR => ?_
      obtain ⟨rs, hrs, hmem, hlen⟩ := hR
      obtain ⟨vb, vc, rfl, hvs⟩ := Rep.sl hrs
      rw [List.length_map] at hvs hrs ⊢
      have hsl2 := (hsl.mono hle).mono hle2
      refine loop_intro (fun k : Nat => k ≤ rs.length ∧ ∀ (j : Nat) n, j < k → rs[j]? = some n → sub bs n = none)
        (fun k => ⟨[(0, .val (.slice base bs.length cap)), (12, .val (.slice base bs.length cap)), (13, .val (.int .i64 bs.length)), (14, .val (.int .i64 i)), (32, .val (.slice vb rs.length vc)), (33, .val (.int .i64 rs.length)), (34, .val (.int .i64 k))], [], 0, μ2, Mem.nil⟩) (fun k => rs.length - k)
        0 ⟨by omega, fun j n hj => by omega⟩ (fun k => ⟨rfl, rfl⟩) ⟨⟨rfl, rfl, rfl, rfl, rfl, rfl, rfl, trivial⟩, trivial, rfl, rfl⟩ ?_
      rintro k ⟨hkl, hz⟩
      have hrl : rs.length ≤ 5000 := by simp at hlen; omega
      refine ifd (fun h5 => ?_) (fun h5 => ?_)
      · obtain ⟨n, hn'⟩ := at_some (l := rs) (i := k) (by omega)
        obtain ⟨ad2, hel2⟩ := Ints.elem hvs hn'
        refine elem_intro hel2 ?_
        refine call_plain (l04Get_spec hsl2) fun v' μ3 hle3 hR3 => ?_
        obtain ⟨hR3, e3⟩ := hR3
        obtain rfl := e3.symm
        cases hs : sub bs n with
        | some y =>
          rw [hs] at hR3
          obtain ⟨tv, rfl, htv⟩ := hR3
          obtain ⟨q, rfl⟩ := Tm.invV htv
          intro r7
          refine if_intro (fun _ => ret_plain (bad fun k => ?_)) (fun h => nomatch h)
          have := k.2 n (((hmem n).1 (mem_at hn')).elim id (fun h => absurd h (by simp)))
          rw [hs] at this; cases this
        | none =>
          rw [hs] at hR3
          obtain rfl := hR3
          intro r7
          refine if_intro (fun h => nomatch h) (fun _ => ?_)
          refine num64 (by omega) (by omega) ⟨k + 1, ⟨by omega, fun j m hj hm => ?_⟩, by omega, ⟨⟨rfl, rfl, rfl, rfl, rfl, rfl, rfl, trivial⟩, trivial, rfl, rfl⟩⟩
          rcases Nat.lt_or_ge j k with h6 | h6
          · exact hz j m h6 hm
          · obtain rfl : j = k := by omega
            rw [hn'] at hm; cases hm; exact hs
      · obtain rfl : k = rs.length := by omega
        refine num64 (by omega) (by omega) ⟨(i + 1, μ2), ⟨by dsimp only; omega, hle.trans hle2, fun j c hj hc => ?_⟩, by dsimp only; omega, ⟨⟨rfl, rfl, rfl, rfl, trivial⟩, trivial, rfl, rfl⟩⟩
        dsimp only at hj
        rcases Nat.lt_or_ge j i with h6 | h6
        · exact hall j c h6 hc
        · obtain rfl : j = i := by omega
          rw [hb] at hc; cases hc
          refine ⟨hk, fun n hnv => ?_⟩
          obtain ⟨m, hm⟩ := List.mem_iff_getElem?.1 ((hmem n).2 (.inl hnv))
          exact hz m n (List.getElem?_eq_some_iff.1 hm).1 hm
    · have hk : ¬ (b.to.tm.kind = 1 ∧ b.var ≤ b.to.tm.num) := fun k => h1 k.1
      refine call_plain (l02Vars_spec b.to (l := []) hto (Rep.nilSl 1) (by simp; omega)) fun v μ2 hle2 hR => ?_
      obtain ⟨rs, hrs, hmem, hlen⟩ := hR
      obtain ⟨vb, vc, rfl, hvs⟩ := Rep.sl hrs
      rw [List.length_map] at hvs hrs ⊢
      have hsl2 := (hsl.mono hle).mono hle2
      refine loop_intro (fun k : Nat => k ≤ rs.length ∧ ∀ (j : Nat) n, j < k → rs[j]? = some n → sub bs n = none)
        (fun k => ⟨[(0, .val (.slice base bs.length cap)), (12, .val (.slice base bs.length cap)), (13, .val (.int .i64 bs.length)), (14, .val (.int .i64 i)), (32, .val (.slice vb rs.length vc)), (33, .val (.int .i64 rs.length)), (34, .val (.int .i64 k))], [], 0, μ2, Mem.nil⟩) (fun k => rs.length - k)
        0 ⟨by omega, fun j n hj => by omega⟩ (fun k => ⟨rfl, rfl⟩) ⟨⟨rfl, rfl, rfl, rfl, rfl, rfl, rfl, trivial⟩, trivial, rfl, rfl⟩ ?_
      rintro k ⟨hkl, hz⟩
      have hrl : rs.length ≤ 5000 := by simp at hlen; omega
      refine ifd (fun h5 => ?_) (fun h5 => ?_)
      · obtain ⟨n, hn'⟩ := at_some (l := rs) (i := k) (by omega)
        obtain ⟨ad2, hel2⟩ := Ints.elem hvs hn'
        refine elem_intro hel2 ?_
        refine call_plain (l04Get_spec hsl2) fun v' μ3 hle3 hR3 => ?_
        obtain ⟨hR3, e3⟩ := hR3
        obtain rfl := e3.symm
        cases hs : sub bs n with
        | some y =>
          rw [hs] at hR3
          obtain ⟨tv, rfl, htv⟩ := hR3
          obtain ⟨q, rfl⟩ := Tm.invV htv
          intro r7
          refine if_intro (fun _ => ret_plain (bad fun k => ?_)) (fun h => nomatch h)
          have := k.2 n (((hmem n).1 (mem_at hn')).elim id (fun h => absurd h (by simp)))
          rw [hs] at this; cases this
        | none =>
          rw [hs] at hR3
          obtain rfl := hR3
          intro r7
          refine if_intro (fun h => nomatch h) (fun _ => ?_)
          refine num64 (by omega) (by omega) ⟨k + 1, ⟨by omega, fun j m hj hm => ?_⟩, by omega, ⟨⟨rfl, rfl, rfl, rfl, rfl, rfl, rfl, trivial⟩, trivial, rfl, rfl⟩⟩
          rcases Nat.lt_or_ge j k with h6 | h6
          · exact hz j m h6 hm
          · obtain rfl : j = k := by omega
            rw [hn'] at hm; cases hm; exact hs
      · obtain rfl : k = rs.length := by omega
        refine num64 (by omega) (by omega) ⟨(i + 1, μ2), ⟨by dsimp only; omega, hle.trans hle2, fun j c hj hc => ?_⟩, by dsimp only; omega, ⟨⟨rfl, rfl, rfl, rfl, trivial⟩, trivial, rfl, rfl⟩⟩
        dsimp only at hj
        rcases Nat.lt_or_ge j i with h6 | h6
        · exact hall j c h6 hc
        · obtain rfl : j = i := by omega
          rw [hb] at hc; cases hc
          refine ⟨hk, fun n hnv => ?_⟩
          obtain ⟨m, hm⟩ := List.mem_iff_getElem?.1 ((hmem n).2 (.inl hnv))
          exact hz m n (List.getElem?_eq_some_iff.1 hm).1 hm
  · obtain rfl : i = bs.length := by omega
    exact ret_plain (isT ((substOk_iff bs).2 ⟨hbs, fun b hb => by
      obtain ⟨j, hj⟩ := List.mem_iff_getElem?.1 hb
      exact hall j b (List.getElem?_eq_some_iff.1 hj).1 hj⟩))
/-- A cell of one's own beside other memory. -/
def boolOn (H : Mem) (r : Nat) (b : Bool) : Mem := H.set r (.cells #[.bool b] 4 (0, 0))
noncomputable def unbound (bs : List B) (f : Bool) (n : Int) : Bool := if sub bs n = none then f else false
theorem SubstOk1_spec {bs : List B} {base : Option Addr} {cap : Nat} {H : Mem} {r1 : Nat} {t1 : TypeId} (r : Nat) (b : Bool) (n : Int) (hs : Srt bs) (hlen : bs.length ≤ 1000000000) (hsl : Sl μ 5 base bs.length ((bs.map B.bd).map Bd.d)) (h1 : μ r1 = some (.cells #[.slice base bs.length cap] t1 (0, 0))) :
    SpecH Try.prog 153 [.int .i64 n, .pointer (some ⟨r1, 0, none⟩), .pointer (some ⟨r, 0, none⟩)] μ (boolOn H r b) fun v μ' h' => v = .tuple #[] ∧ μ' = μ ∧ h' = boolOn H r (unbound bs b n) := by
  refine SpecH.mk [] Try.func153 (by kernel_rfl) ?_
  refine ext_intro [.slice base bs.length cap] rfl (box_at h1) ?_
  refine call_plain (find_spec hs hlen hsl) fun v μ2 hle2 hR => ?_
  obtain ⟨hR, e2⟩ := hR
  obtain rfl := e2.symm
  rcases hR with ⟨i, c, rfl, hc, hn⟩ | ⟨rfl, hno⟩
  · refine ifd (fun _ => ?_) (fun h => absurd h (by omega))
    refine sto_intro (h := boolOn H r b) (a := ⟨r, 0, none⟩) [.bool b] 4 (set_self _ _ _) rfl ?_ ?_
    · exact Nat.le_refl _
    have e : sub bs n ≠ none := by rw [sub_some hs hc hn]; exact fun h => nomatch h
    exact ret_plain ⟨rfl, rfl, by rw [unbound, if_neg e]; exact Mem.set_set _ _ _ _⟩
  · refine ifd (fun h => absurd h (by omega)) (fun _ => ?_)
    exact ret_plain ⟨rfl, rfl, by rw [unbound, if_pos (sub_none hno)]⟩
theorem unbound_all (bs : List B) : ∀ (l : List Int) (f : Bool), l.foldl (unbound bs) f = (f && decide (∀ n ∈ l, sub bs n = none))
  | [], f => by simp
  | n :: l, f => by
    rw [List.foldl_cons, unbound_all bs l, unbound]
    by_cases h : sub bs n = none <;> simp [h]
theorem impl_SubstOk_spec {l : List Bd} {base : Option Addr} {cap : Nat} (hsl : Sl μ 5 base l.length (l.map Bd.d)) : Gives Try.prog 75 [.slice base l.length cap] μ (.bool (decide (substOk l))) := by
  refine Spec.forget (Spec.mkO [5] Try.func75 (by kernel_rfl) ?_)
  intro r1
  refine call_frz [0] ?_
  intro μ1 hle1 hno1 hat1
  refine call_go (impl_ValuesOk_spec (hsl.mono hle1)) fun v μ2 hle2 hR => ?_
  obtain ⟨rfl, e2⟩ := hR
  obtain rfl := e2.symm
  refine ifnd (fun h => ret_plain (isF fun k => h k.1)) (fun hv => ?_)
  obtain ⟨bs, rfl, hbs⟩ := hv.vals
  rw [List.length_map] at hsl hat1 ⊢
  have hn := hbs.len
  have hsl1 := hsl.mono hle1
  refine ext_intro [.slice base bs.length cap] rfl (box_at hat1) ?_
  refine loop_intro (fun p : Nat × Mem => p.1 ≤ bs.length ∧ ∀ (j : Nat) b, j < p.1 → bs[j]? = some b → bndOk bs b)
    (fun (i, H) => ⟨[(1, .loc 0 r1 0), (9, .val (.slice base bs.length cap)), (10, .val (.int .i64 bs.length)), (11, .val (.int .i64 i))], [], 1, μ1, H⟩) (fun p => bs.length - p.1)
    (0, Mem.nil) ⟨by simp, fun j b hj => by simp at hj⟩ (fun (_, _) => ⟨rfl, rfl⟩) ⟨⟨rfl, rfl, rfl, rfl, trivial⟩, trivial, rfl, rfl⟩ ?_
  rintro ⟨i, H⟩ ⟨hi, hall⟩
  dsimp only at hi hall
  refine ifd (fun h => ?_) (fun h => ?_)
  · obtain ⟨b, hb⟩ := at_some (l := bs) (i := i) (by omega)
    obtain ⟨ad, p, hel, hto⟩ := B.elem hsl1 hb
    have bad : ¬ bndOk bs b → Value.bool false = .bool (decide (substOk (bs.map B.bd))) := fun k => isF fun hs => k (((substOk_iff bs).1 hs).bnd b (mem_at hb))
    refine elem_intro hel ?_
    intro r r5 hm5 ho5
    refine sto_intro [.bool false] 4 (set_self _ _ _) rfl ?_ ?_
    · exact Nat.le_refl _
    have e : ((H.set r5 (.cells #[.bool false] 4 (0, 0))).set r5 (.cells #[.bool true] 4 (0, 0))) = boolOn H r5 true := Mem.set_set _ _ _ _
    refine call_own (R := fun r μ' h' => r = .tuple #[] ∧ μ' = μ1 ∧ h' = boolOn H r5 (b.to.vars.foldl (unbound bs) true)) ?_ fun v μ' h' hle hap hR => ?_
    · have := eachVar_spec (μ := μ1) (boolOn H r5) (unbound bs) (Q := fun _ => True) (fun s n _ => SubstOk1_spec (H := H) r5 s n hbs.srt (by omega) hsl1 hat1) b.to true hto (fun _ _ => trivial)
      rw [← e] at this
      exact this
    obtain ⟨rfl, e4, rfl⟩ := hR
    obtain rfl := e4.symm
    rw [unbound_all, Bool.true_and]
    refine own_intro [.bool (decide (∀ n ∈ b.to.vars, sub bs n = none))] rfl (fun j v hj => ?_) ?_
    · match j, hj with
      | 0, hj => cases hj; simp [boolOn, Mem.cell, Addr.add_lit', set_self]
    have fin : bndOk bs b → ∀ (j : Nat) c, j < i + 1 → bs[j]? = some c → bndOk bs c := fun hok j c hj hc => by
      rcases Nat.lt_or_ge j i with h6 | h6
      · exact hall j c h6 hc
      · obtain rfl : j = i := by omega
        rw [hb] at hc; cases hc; exact hok
    refine ifnd (fun h1 => ret_plain (bad fun k => h1 k.2)) (fun h1 => ?_)
    refine ifd (fun h2 => ?_) (fun h2 => ?_)
    · refine ifd (fun h3 => ret_plain (bad fun k => k.1 ⟨h2, h3⟩)) (fun h3 => ?_)
      exact num64 (by omega) (by omega) ⟨(i + 1, _), ⟨by dsimp only; omega, fin ⟨fun k => h3 k.2, h1⟩⟩, by dsimp only; omega, ⟨⟨rfl, rfl, rfl, rfl, trivial⟩, trivial, rfl, rfl⟩⟩
    · exact num64 (by omega) (by omega) ⟨(i + 1, _), ⟨by dsimp only; omega, fin ⟨fun k => h2 k.1, h1⟩⟩, by dsimp only; omega, ⟨⟨rfl, rfl, rfl, rfl, trivial⟩, trivial, rfl, rfl⟩⟩
  · obtain rfl : i = bs.length := by omega
    exact ret_plain (isT ((substOk_iff bs).2 ⟨hbs, fun b hb => by
      obtain ⟨j, hj⟩ := List.mem_iff_getElem?.1 hb
      exact hall j b (List.getElem?_eq_some_iff.1 hj).1 hj⟩))
end
end Go.Vx

/- Marks counted; the term of an answer. -/
namespace Go.Vx
open Go.Proofs Classical
theorem tm_cnt : ∀ t : Tm, t.d.cnt = 3 * t.cnt :=
  Tm.ind fun k n s l ih => by
    have : D.cnts (l.map Tm.d) = 3 * Tm.cnts l := by
      induction l with
      | nil => rfl
      | cons t l ih2 =>
        have h1 := ih t (by simp)
        have h2 := ih2 fun t ht => ih t (by simp [ht])
        simp only [List.map_cons, D.cnts, Tm.cnts, h1, h2]; omega
    rw [Tm.cnt_eq, Tm.cnt]
    show 3 + D.cnts (l.map Tm.d) = _
    omega
theorem tm_cnt_sz : ∀ t : Tm, t.d.cnt ≤ 3 + 3 * t.d.sz :=
  Tm.ind fun k n s l ih => by
    have : D.cnts (l.map Tm.d) ≤ 3 * l.length + 3 * D.szs (l.map Tm.d) := by
      induction l with
      | nil => simp [D.cnts, D.szs]
      | cons t l ih2 =>
        have h1 := ih t (by simp)
        have h2 := ih2 fun t ht => ih t (by simp [ht])
        simp only [List.map_cons, D.cnts, D.szs, List.length_cons]; omega
    rw [Tm.cnt_eq, Tm.d_mk]
    show 3 + D.cnts (l.map Tm.d) ≤ _
    simp only [D.sz, D.szs, List.length_map]
    omega
theorem bds_cnt : ∀ l : List Bd, D.cnts (l.map Bd.d) ≤ 4 * l.length + 3 * D.szs (l.map Bd.d)
  | [] => by simp [D.cnts, D.szs]
  | b :: l => by
    have h1 := bds_cnt l
    have h2 := tm_cnt_sz b.to
    rw [Tm.cnt_eq] at h2
    have h3 := Bd.cnt_eq b
    have h4 : b.d.sz = b.to.d.sz := by simp [Bd.d, D.sz, D.szs]
    simp only [List.map_cons, D.cnts, D.szs, List.length_cons]; omega
theorem tm_mt (t : Tm) (k : Int) : (t.d.mt k).2 = k + D.cnts (t.args.map Tm.d) := by rw [Tm.mt_eq]; exact D.mks_cnt _ _
/-- The term of an answer. -/
def resTm : Option T → Tm
  | some y => y.tm
  | none => .mk 0 0 ⟨#[]⟩ []
theorem zero_own : OwnV (resTm none).d Mem.nil (.agg #[.int .i64 0, .int .i64 0, .string ⟨#[]⟩, .slice none 0 0]) := by
  rw [resTm, Tm.d_mk]
  exact ⟨_, rfl, OwnS.int (OwnS.int (OwnS.str (OwnS.last (Own.nilSl 4))))⟩
theorem optV_rep {μ : Mem} {o : Option T} {v : Value} (h : optV (fun y tv => RepV μ y.tm.d tv) o v) : ∃ tv, v = .tuple #[tv, .bool o.isSome] ∧ RepV μ (resTm o).d tv := by
  cases o with
  | some y => obtain ⟨tv, rfl, h⟩ := h; exact ⟨tv, rfl, h⟩
  | none => exact ⟨_, h, zero_own.rep (fun _ _ h => nomatch h)⟩
theorem optV_fresh {μ μ' : Mem} {o : Option T} {v : Value} (h : optV (fun y tv => Fresh μ μ' y.tm.d tv) o v) : ∃ tv, v = .tuple #[tv, .bool o.isSome] ∧ Fresh μ μ' (resTm o).d tv := by
  cases o with
  | some y => obtain ⟨tv, rfl, h⟩ := h; exact ⟨tv, rfl, h⟩
  | none => exact ⟨_, h, Mem.nil, zero_own, (fun _ _ h => nomatch h), fun _ h => absurd rfl h⟩
end Go.Vx

/- Contracts: substitutions applied; which one is more general; unifiers. -/
namespace Go.Vx
open Go.Proofs Classical
/-! ### Plain -/
noncomputable def appl (l : List Bd) (t : Tm) : Option T := if substOk l ∧ t.Ok then fit (t.toT.subst (sub (l.map Bd.b))) else none
theorem fit_some {x y : T} : fit x = some y ↔ x.size ≤ 5000 ∧ x = y := by
  unfold fit
  split
  · rename_i h; exact ⟨fun k => ⟨h, Option.some.inj k⟩, fun k => by rw [k.2]⟩
  · rename_i h; exact ⟨fun k => (nomatch k), fun k => absurd k.1 h⟩
theorem fit_isSome (x : T) : (fit x).isSome = decide (x.size ≤ 5000) := by
  unfold fit
  split <;> simp_all
section
variable {μ : Mem}
theorem spec_ApplySubst_spec {t : Tm} {l : List Bd} {v : Value} {base : Option Addr} {cap : Nat} (hsl : Sl μ 5 base l.length (l.map Bd.d)) (hwl : D.wds (l.map Bd.d)) (hv : RepV μ t.d v) (hw : t.d.wd) :
    Spec Try.prog 15 [.slice base l.length cap, v] μ fun v μ' => optV (fun y tv => RepV μ' y.tm.d tv) (appl l t) v := by
  obtain ⟨p, rfl⟩ := Tm.invV hv
  refine Spec.mk Try.func15 (by kernel_rfl) ?_
  intro r1 r2
  refine call_gives (spec_SubstOk_spec hsl hwl) ?_
  refine ifnd (fun h => ret_plain (by rw [appl, if_neg fun k => h k.1]; rfl)) (fun h1 => ?_)
  refine call_gives (spec_TermOk_spec t hv hw) ?_
  refine ifnd (fun h => ret_plain (by rw [appl, if_neg fun k => h k.2]; rfl)) (fun h2 => ?_)
  obtain ⟨x, _, rfl⟩ := h2.lift
  obtain ⟨bs, rfl, hbs⟩ := h1.subst
  rw [List.length_map] at hsl ⊢
  have e3 : appl (bs.map B.bd) x.tm = fit (x.subst (sub bs)) := by
    rw [appl, if_pos ⟨h1, h2⟩, T.toT_tm, B.map_b]
  rw [e3]
  refine call_plain (l04Apply_spec x hsl hv) fun v1 μ1 hle1 hR => ?_
  obtain ⟨tv, rfl, hR⟩ := hR
  obtain ⟨q, rfl⟩ := Tm.invV hR
  intro r3
  refine ifnd (fun h => ret_plain (by rw [fit, if_neg h]; rfl)) (fun h3 => ?_)
  refine call_plain (l02Copy_spec _ hR) fun v2 μ2 hle2 hR2 => ?_
  obtain ⟨q2, rfl⟩ := Tm.invV hR2
  refine ret_plain ?_
  rw [fit, if_pos h3]
  exact ⟨_, rfl, hR2⟩
theorem impl_ApplySubst_spec {t : Tm} {l : List Bd} {v : Value} {base : Option Addr} {cap : Nat} (hsl : Sl μ 5 base l.length (l.map Bd.d)) (hv : RepV μ t.d v) :
    Spec Try.prog 18 [.slice base l.length cap, v] μ fun v μ' => optV (fun y tv => Fresh μ μ' y.tm.d tv) (appl l t) v := by
  obtain ⟨p, rfl⟩ := Tm.invV hv
  refine Spec.mk Try.func18 (by kernel_rfl) ?_
  intro r1 r2
  refine call_gives (impl_SubstOk_spec hsl) ?_
  refine ifnd (fun h => ret_plain (by rw [appl, if_neg fun k => h k.1]; rfl)) (fun h1 => ?_)
  refine call_gives (impl_TermOk_spec t hv) ?_
  refine ifnd (fun h => ret_plain (by rw [appl, if_neg fun k => h k.2]; rfl)) (fun h2 => ?_)
  obtain ⟨x, _, rfl⟩ := h2.lift
  obtain ⟨bs, rfl, hbs⟩ := h1.subst
  rw [List.length_map] at hsl ⊢
  have hlen := hbs.vals.len
  have e3 : appl (bs.map B.bd) x.tm = fit (x.subst (sub bs)) := by
    rw [appl, if_pos ⟨h1, h2⟩, T.toT_tm, B.map_b]
  rw [e3]
  refine call_plain (put_spec x hbs.vals.srt (by omega) hbs.vals.tok hsl hv) fun v1 μ1 hle1 hR => ?_
  cases hf : fit (x.subst (sub bs)) with
  | some y =>
    rw [hf] at hR
    obtain ⟨tv, rfl, htv⟩ := hR
    obtain ⟨q, rfl⟩ := Tm.invV htv.rep
    exact ret_plain ⟨_, rfl, htv⟩
  | none =>
    rw [hf] at hR
    obtain rfl := hR
    exact ret_plain rfl
end
end Go.Vx

/- Contracts: the reference's Instantiate. -/
namespace Go.Vx
open Go.Proofs Classical
section
variable {μ : Mem}
/-- What 'Instantiate' gives. -/
noncomputable def inst (t : Tm) (l : List Bd) : Option T := if t.Ok ∧ valsOk l ∧ (t.toT.subst (sub (l.map Bd.b))).size ≤ 5000 then some (t.toT.subst (sub (l.map Bd.b))) else none
theorem spec_Instantiate_spec {t : Tm} {l : List Bd} {v : Value} {base : Option Addr} {cap : Nat} (hv : RepV μ t.d v) (hw : t.d.wd) (hsl : Sl μ 5 base l.length (l.map Bd.d)) (hwl : D.wds (l.map Bd.d)) :
    Spec Try.prog 80 [v, .slice base l.length cap] μ fun v μ' => optV (fun y tv => RepV μ' y.tm.d tv) (inst t l) v := by
  obtain ⟨p, rfl⟩ := Tm.invV hv
  refine Spec.mk Try.func80 (by kernel_rfl) ?_
  intro r1 r2
  refine call_gives (spec_TermOk_spec t hv hw) ?_
  refine ifnd (fun h => ret_plain (by rw [inst, if_neg fun k => h k.1]; rfl)) (fun h1 => ?_)
  refine call_gives (spec_ValuesOk_spec hsl hwl) ?_
  refine ifnd (fun h => ret_plain (by rw [inst, if_neg fun k => h k.2.1]; rfl)) (fun h2 => ?_)
  have e1 := h1.toT.2
  have e2 := h2.lift.1
  have hv' : RepV μ t.toT.tm.d (.agg #[.int .i64 t.kind, .int .i64 t.num, .string t.name, .slice p.1 t.args.length p.2]) := by rw [e1]; exact hv
  have hsl' : Sl μ 5 base (l.map Bd.b).length (((l.map Bd.b).map B.bd).map Bd.d) := by rw [e2, List.length_map]; exact hsl
  have hcall := l04Apply_spec (cap := cap) t.toT hsl' hv'
  rw [List.length_map] at hcall
  refine call_plain hcall fun v1 μ1 hle1 hR => ?_
  obtain ⟨tv, rfl, hR⟩ := hR
  obtain ⟨q, rfl⟩ := Tm.invV hR
  intro r3
  refine ifnd (fun h => ret_plain (by rw [inst, if_neg fun k => h k.2.2]; rfl)) (fun h3 => ?_)
  refine call_plain (l02Copy_spec _ hR) fun v2 μ2 hle2 hR2 => ?_
  obtain ⟨q2, rfl⟩ := Tm.invV hR2
  refine ret_plain ?_
  rw [inst, if_pos ⟨h1, h2, h3⟩]
  exact ⟨_, rfl, hR2⟩
end
end Go.Vx

/- Contracts: a disequality holds of values. -/
namespace Go.Vx
open Go.Proofs Classical
def differ (bl : List B) (b : B) : Prop := ∃ x y, fit ((T.var b.var).subst (sub bl)) = some x ∧ fit (b.to.subst (sub bl)) = some y ∧ x ≠ y
def disHolds (l m : List Bd) : Prop := substOk l ∧ valsOk m ∧ ∃ b ∈ l.map Bd.b, differ (m.map Bd.b) b
theorem disHolds_iff (bs bl : List B) : disHolds (bs.map B.bd) (bl.map B.bd) ↔ Subst bs ∧ Vals bl ∧ ∃ b ∈ bs, differ bl b := by
  unfold disHolds
  rw [substOk_iff, B.map_b, B.map_b]
  exact ⟨fun h => ⟨h.1, ⟨h.2.1⟩, h.2.2⟩, fun h => ⟨h.1, h.2.1.1, h.2.2⟩⟩
theorem inst_tm {x : T} (hx : x.ok) (m : List Bd) : inst x.tm m = if valsOk m then fit (x.subst (sub (m.map Bd.b))) else none := by
  rw [inst, T.toT_tm, fit]
  by_cases h : valsOk m
  · rw [if_pos h]
    by_cases h2 : (x.subst (sub (m.map Bd.b))).size ≤ 5000
    · rw [if_pos ⟨hx.tm, h, h2⟩, if_pos h2]
    · rw [if_neg fun k => h2 k.2.2, if_neg h2]
  · rw [if_neg fun k => h k.2.1, if_neg h]
theorem var_ok {n : Int} (h : 0 ≤ n ∧ n ≤ 100000) : (T.var n).ok := ⟨h, by simp [T.size]⟩
theorem var_wd {n : Int} (h : 0 ≤ n ∧ n ≤ 100000) : (T.var n).tm.d.wd := by
  rw [T.d_eq]
  exact ⟨⟨show (-9223372036854775808 : Int) ≤ 1 by decide, show (1 : Int) ≤ 9223372036854775807 by decide⟩, ⟨show _ ≤ n by omega, show n ≤ _ by omega⟩, Nat.zero_le _, trivial, trivial⟩
section
variable {μ : Mem}
theorem impl_DisequalityHolds_spec {l m : List Bd} {base base2 : Option Addr} {cap cap2 : Nat} (hsl : Sl μ 5 base l.length (l.map Bd.d)) (hsl2 : Sl μ 5 base2 m.length (m.map Bd.d)) :
    Gives Try.prog 25 [.slice base l.length cap, .slice base2 m.length cap2] μ (.bool (decide (disHolds l m))) := by
  refine Spec.forget (Spec.mk Try.func25 (by kernel_rfl) ?_)
  refine call_gives (impl_SubstOk_spec hsl) ?_
  refine ifnd (fun h => ret_plain (isF fun k => h k.1)) (fun h1 => ?_)
  refine call_gives (impl_ValuesOk_spec hsl2) ?_
  refine ifnd (fun h => ret_plain (isF fun k => h k.2.1)) (fun h2 => ?_)
  obtain ⟨bs, rfl, hbs⟩ := h1.subst
  obtain ⟨bt, rfl, ht⟩ := h2.vals
  rw [List.length_map] at hsl ⊢
  rw [List.length_map] at hsl2 ⊢
  have hn := hbs.vals.len
  have htl := ht.len
  let good := differ bt
  have none : (∀ b ∈ bs, ¬ good b) → Value.bool false = .bool (decide (disHolds (bs.map B.bd) (bt.map B.bd))) := fun k => isF fun h => by
    obtain ⟨b, hb, h⟩ := ((disHolds_iff bs bt).1 h).2.2
    exact k b hb h
  refine loop_intro (fun p : Nat × Mem => p.1 ≤ bs.length ∧ μ.Le p.2 ∧ ∀ (j : Nat) b, j < p.1 → bs[j]? = some b → ¬ good b)
    (fun (i, μ') => ⟨[(1, .val (.slice base2 bt.length cap2)), (19, .val (.slice base bs.length cap)), (20, .val (.int .i64 bs.length)), (21, .val (.int .i64 i))], [], 0, μ', Mem.nil⟩) (fun p => bs.length - p.1)
    (0, μ) ⟨by simp, Mem.Le.refl μ, fun j b hj => by simp at hj⟩ (fun (_, _) => ⟨rfl, rfl⟩) ⟨⟨rfl, rfl, rfl, rfl, trivial⟩, trivial, rfl, rfl⟩ ?_
  rintro ⟨i, μ'⟩ ⟨hi, hle, hall⟩
  dsimp only at hi hle hall
  refine ifd (fun h => ?_) (fun h => ?_)
  rotate_left
  · obtain rfl : i = bs.length := by omega
    exact ret_plain (none fun b hb => by
      obtain ⟨j, hj⟩ := List.mem_iff_getElem?.1 hb
      exact hall j b (List.getElem?_eq_some_iff.1 hj).1 hj)
  obtain ⟨b, hb⟩ := at_some (l := bs) (i := i) (by omega)
  obtain ⟨ad, p, hel, hto⟩ := B.elem (hsl.mono hle) hb
  have hsl2' := hsl2.mono hle
  have fin : ∀ μ3, μ'.Le μ3 → ¬ good b → i + 1 ≤ bs.length ∧ μ.Le μ3 ∧ ∀ (j : Nat) c, j < i + 1 → bs[j]? = some c → ¬ good c := fun μ3 hle3 hg => ⟨by omega, hle.trans hle3, fun j c hj hc => by
    rcases Nat.lt_or_ge j i with h6 | h6
    · exact hall j c h6 hc
    · obtain rfl : j = i := by omega
      rw [hb] at hc; cases hc; exact hg⟩
  refine elem_intro hel ?_
  intro r
  have no : ¬ differ bt b → ¬ good b := id
  have yes : ∀ b ∈ bs, differ bt b → Value.bool true = .bool (decide (disHolds (bs.map B.bd) (bt.map B.bd))) := fun b hb h => isT ((disHolds_iff bs bt).2 ⟨hbs, ht, b, hb, h⟩)
  refine call_gives (variable_spec _) ?_
  refine call_plain (put_spec (T.var b.var) ht.srt (by omega) ht.tok hsl2' (varV_rep _)) fun v1 μ1 hle1 hR1 => ?_
  obtain ⟨tv1, rfl, hf1⟩ := optV_fresh hR1
  obtain ⟨p1, rfl⟩ := Tm.invV hf1.rep
  intro r7
  refine call_plain (put_spec b.to ht.srt (by omega) ht.tok (hsl2'.mono hle1) (hto.mono hle1)) fun v2 μ2 hle2 hR2 => ?_
  obtain ⟨tv2, rfl, hf2⟩ := optV_fresh hR2
  obtain ⟨p2, rfl⟩ := Tm.invV hf2.rep
  intro r9
  cases e1 : fit ((T.var b.var).subst (sub bt)) with
  | none => exact if_intro (fun h => nomatch h) (fun _ => num64 (by omega) (by omega) ⟨(i + 1, μ2), fin μ2 (hle1.trans hle2) (no (by rintro ⟨x, y, k, _⟩; first | cases k | (rw [e1] at k; cases k))), by dsimp only; omega, ⟨⟨rfl, rfl, rfl, rfl, trivial⟩, trivial, rfl, rfl⟩⟩)
  | some x1 =>
    refine if_intro (fun _ => ?_) (fun h => nomatch h)
    cases e2 : fit (b.to.subst (sub bt)) with
    | none => exact if_intro (fun h => nomatch h) (fun _ => num64 (by omega) (by omega) ⟨(i + 1, μ2), fin μ2 (hle1.trans hle2) (no (by rintro ⟨x, y, _, k, _⟩; first | cases k | (rw [e2] at k; cases k))), by dsimp only; omega, ⟨⟨rfl, rfl, rfl, rfl, trivial⟩, trivial, rfl, rfl⟩⟩)
    | some x2 =>
      refine if_intro (fun _ => ?_) (fun h => nomatch h)
      rw [e1] at hf1
      rw [e2] at hf2
      refine call_gives (equalTerms_spec x1 x2 (hf1.rep.mono hle2) hf2.rep) ?_
      refine ifnd (fun h9 => ?_) (fun h9 => ?_)
      · exact ret_plain (yes b (mem_at hb) ⟨x1, x2, e1, e2, h9⟩)
      · exact num64 (by omega) (by omega) ⟨(i + 1, μ2), fin μ2 (hle1.trans hle2) (no (by rintro ⟨x, y, k1, k2, k3⟩; first | cases k1 | (rw [e1] at k1; cases k1); first | cases k2 | (rw [e2] at k2; cases k2); exact k3 h9)), by dsimp only; omega, ⟨⟨rfl, rfl, rfl, rfl, trivial⟩, trivial, rfl, rfl⟩⟩
theorem spec_DisequalityHolds_spec {l m : List Bd} {base base2 : Option Addr} {cap cap2 : Nat} (hsl : Sl μ 5 base l.length (l.map Bd.d)) (hw : D.wds (l.map Bd.d)) (hsl2 : Sl μ 5 base2 m.length (m.map Bd.d)) (hw2 : D.wds (m.map Bd.d)) :
    Gives Try.prog 24 [.slice base l.length cap, .slice base2 m.length cap2] μ (.bool (decide (disHolds l m))) := by
  refine Spec.forget (Spec.mk Try.func24 (by kernel_rfl) ?_)
  refine call_gives (spec_SubstOk_spec hsl hw) ?_
  refine ifnd (fun h => ret_plain (isF fun k => h k.1)) (fun h1 => ?_)
  obtain ⟨bs, rfl, hbs⟩ := h1.subst
  rw [List.length_map] at hsl ⊢
  have hn := hbs.vals.len
  let good := fun b : B => ∃ x y, inst (T.var b.var).tm m = some x ∧ inst b.to.tm m = some y ∧ x ≠ y
  have hgood : ∀ b ∈ bs, good b ↔ valsOk m ∧ differ (m.map Bd.b) b := fun b hb => by
    have h1 := inst_tm (var_ok (hbs.vals.var b hb)) m
    have h2 := inst_tm (hbs.vals.tok b hb) m
    show (∃ x y, inst (T.var b.var).tm m = some x ∧ inst b.to.tm m = some y ∧ x ≠ y) ↔ _
    rw [h1, h2]
    by_cases hv : valsOk m
    · rw [if_pos hv, if_pos hv]; exact ⟨fun h => ⟨hv, h⟩, fun h => h.2⟩
    · rw [if_neg hv, if_neg hv]; exact ⟨fun ⟨x, y, h, _⟩ => (nomatch h), fun h => absurd h.1 hv⟩
  have hiff : disHolds (bs.map B.bd) m ↔ ∃ b ∈ bs, good b := by
    unfold disHolds
    rw [substOk_iff, B.map_b]
    exact ⟨fun ⟨_, h2, b, hb, h3⟩ => ⟨b, hb, (hgood b hb).2 ⟨h2, h3⟩⟩, fun ⟨b, hb, h⟩ => ⟨hbs, ((hgood b hb).1 h).1, b, hb, ((hgood b hb).1 h).2⟩⟩
  have none : (∀ b ∈ bs, ¬ good b) → Value.bool false = .bool (decide (disHolds (bs.map B.bd) m)) := fun k => isF fun h => by
    obtain ⟨b, hb, h⟩ := hiff.1 h
    exact k b hb h
  refine loop_intro (fun p : Nat × Mem => p.1 ≤ bs.length ∧ μ.Le p.2 ∧ ∀ (j : Nat) b, j < p.1 → bs[j]? = some b → ¬ good b)
    (fun (i, μ') => ⟨[(1, .val (.slice base2 m.length cap2)), (14, .val (.slice base bs.length cap)), (15, .val (.int .i64 bs.length)), (16, .val (.int .i64 i))], [], 0, μ', Mem.nil⟩) (fun p => bs.length - p.1)
    (0, μ) ⟨by simp, Mem.Le.refl μ, fun j b hj => by simp at hj⟩ (fun (_, _) => ⟨rfl, rfl⟩) ⟨⟨rfl, rfl, rfl, rfl, trivial⟩, trivial, rfl, rfl⟩ ?_
  rintro ⟨i, μ'⟩ ⟨hi, hle, hall⟩
  dsimp only at hi hle hall
  refine ifd (fun h => ?_) (fun h => ?_)
  rotate_left
  · obtain rfl : i = bs.length := by omega
    exact ret_plain (none fun b hb => by
      obtain ⟨j, hj⟩ := List.mem_iff_getElem?.1 hb
      exact hall j b (List.getElem?_eq_some_iff.1 hj).1 hj)
  obtain ⟨b, hb⟩ := at_some (l := bs) (i := i) (by omega)
  obtain ⟨ad, p, hel, hto⟩ := B.elem (hsl.mono hle) hb
  have hsl2' := hsl2.mono hle
  have fin : ∀ μ3, μ'.Le μ3 → ¬ good b → i + 1 ≤ bs.length ∧ μ.Le μ3 ∧ ∀ (j : Nat) c, j < i + 1 → bs[j]? = some c → ¬ good c := fun μ3 hle3 hg => ⟨by omega, hle.trans hle3, fun j c hj hc => by
    rcases Nat.lt_or_ge j i with h6 | h6
    · exact hall j c h6 hc
    · obtain rfl : j = i := by omega
      rw [hb] at hc; cases hc; exact hg⟩
  refine elem_intro hel ?_
  intro r
  have no : ¬ (∃ x y, inst (T.var b.var).tm m = some x ∧ inst b.to.tm m = some y ∧ x ≠ y) → ¬ good b := id
  have yes : ∀ b ∈ bs, (∃ x y, inst (T.var b.var).tm m = some x ∧ inst b.to.tm m = some y ∧ x ≠ y) → Value.bool true = .bool (decide (disHolds (bs.map B.bd) m)) := fun b hb h => isT (hiff.2 ⟨b, hb, h⟩)
  have hwt : b.to.tm.d.wd := (D.wds_mem hw _ (mem_at (at_map (f := Bd.d) (l := bs.map B.bd) (j := i) (a := b.bd) (by simp [hb])))).2.1
  refine call_gives (l02Var_spec _) ?_
  refine call_plain (spec_Instantiate_spec (t := (T.var b.var).tm) (varV_rep b.var) (var_wd (hbs.vals.var b (mem_at hb))) hsl2' hw2) fun v1 μ1 hle1 hR1 => ?_
  obtain ⟨tv1, rfl, hf1⟩ := optV_rep hR1
  obtain ⟨p1, rfl⟩ := Tm.invV hf1
  intro r7
  refine call_plain (spec_Instantiate_spec (hto.mono hle1) hwt (hsl2'.mono hle1) hw2) fun v2 μ2 hle2 hR2 => ?_
  obtain ⟨tv2, rfl, hf2⟩ := optV_rep hR2
  obtain ⟨p2, rfl⟩ := Tm.invV hf2
  intro r9
  cases e1 : inst (T.var b.var).tm m with
  | none => exact if_intro (fun h => nomatch h) (fun _ => num64 (by omega) (by omega) ⟨(i + 1, μ2), fin μ2 (hle1.trans hle2) (no (by rintro ⟨x, y, k, _⟩; first | cases k | (rw [e1] at k; cases k))), by dsimp only; omega, ⟨⟨rfl, rfl, rfl, rfl, trivial⟩, trivial, rfl, rfl⟩⟩)
  | some x1 =>
    refine if_intro (fun _ => ?_) (fun h => nomatch h)
    cases e2 : inst b.to.tm m with
    | none => exact if_intro (fun h => nomatch h) (fun _ => num64 (by omega) (by omega) ⟨(i + 1, μ2), fin μ2 (hle1.trans hle2) (no (by rintro ⟨x, y, _, k, _⟩; first | cases k | (rw [e2] at k; cases k))), by dsimp only; omega, ⟨⟨rfl, rfl, rfl, rfl, trivial⟩, trivial, rfl, rfl⟩⟩)
    | some x2 =>
      refine if_intro (fun _ => ?_) (fun h => nomatch h)
      rw [e1] at hf1
      rw [e2] at hf2
      refine call_gives (l02Same_spec x1 x2 (hf1.mono hle2) hf2) ?_
      refine ifnd (fun h9 => ?_) (fun h9 => ?_)
      · exact ret_plain (yes b (mem_at hb) ⟨x1, x2, e1, e2, h9⟩)
      · exact num64 (by omega) (by omega) ⟨(i + 1, μ2), fin μ2 (hle1.trans hle2) (no (by rintro ⟨x, y, k1, k2, k3⟩; first | cases k1 | (rw [e1] at k1; cases k1); first | cases k2 | (rw [e2] at k2; cases k2); exact k3 h9)), by dsimp only; omega, ⟨⟨rfl, rfl, rfl, rfl, trivial⟩, trivial, rfl, rfl⟩⟩
end
end Go.Vx

/- The law on a disequality that holds. -/
namespace Go.Vx
open Go.Proofs Classical
section
variable {μ : Mem}
theorem FnExactDisequalityHolds_spec {t0 : List Bd} {v0 : Value} {t1 : List Bd} {v1 : Value} (h0 : RepV μ (.sl 5 (t0.map Bd.d)) v0) (h1 : RepV μ (.sl 5 (t1.map Bd.d)) v1) (w0 : D.wds (t0.map Bd.d)) (w1 : D.wds (t1.map Bd.d)) :
    Spec Try.prog 4 [v0, v1] μ fun r _ => r = .bool true := by
  obtain ⟨b0, c0, rfl, s0⟩ := Rep.sl h0
  rw [List.length_map] at s0 ⊢
  obtain ⟨b1, c1, rfl, s1⟩ := Rep.sl h1
  rw [List.length_map] at s1 ⊢
  refine Spec.mk Try.func4 (by kernel_rfl) ?_
  refine call_gives (szBindingS_spec s0 (by omega) (by omega) w0) ?_
  refine ifd (fun h => ret_plain rfl) (fun h => ?_)
  have q0 := szR_ge h
  rw [szR_pos q0] at h ⊢
  refine call_gives (szBindingS_spec s1 (by omega) (by omega) w1) ?_
  refine ifd (fun h => ret_plain rfl) (fun h => ?_)
  have q1 := szR_ge h
  rw [szR_pos q1] at h
  have hb0 : t0.length + D.szs (t0.map Bd.d) ≤ 1048576 := by omega
  have hb1 : t1.length + D.szs (t1.map Bd.d) ≤ 1048576 := by omega
  refine call_plain (toBindingS_spec s0 hb0) fun u1 μ1 hle1 hf1 => ?_
  replace s0 := s0.mono hle1
  replace s1 := s1.mono hle1
  obtain ⟨bb1, cc1, rfl, a0⟩ := Rep.sl hf1.rep
  rw [List.length_map] at a0 ⊢
  refine call_plain (toBindingS_spec s1 hb1) fun u2 μ2 hle2 hf2 => ?_
  replace s0 := s0.mono hle2
  replace s1 := s1.mono hle2
  replace a0 := a0.mono hle2
  obtain ⟨bb2, cc2, rfl, a1⟩ := Rep.sl hf2.rep
  rw [List.length_map] at a1 ⊢
  refine call_gives (spec_DisequalityHolds_spec a0 w0 a1 w1) ?_
  refine call_plain (toBindingS_spec s0 hb0) fun u3 μ3 hle3 hf3 => ?_
  replace s0 := s0.mono hle3
  replace s1 := s1.mono hle3
  replace a0 := a0.mono hle3
  replace a1 := a1.mono hle3
  obtain ⟨bb3, cc3, rfl, x0⟩ := Rep.sl hf3.rep
  rw [List.length_map] at x0 ⊢
  refine call_plain (toBindingS_spec s1 hb1) fun u4 μ4 hle4 hf4 => ?_
  replace s0 := s0.mono hle4
  replace s1 := s1.mono hle4
  replace a0 := a0.mono hle4
  replace a1 := a1.mono hle4
  replace x0 := x0.mono hle4
  obtain ⟨bb4, cc4, rfl, x1⟩ := Rep.sl hf4.rep
  rw [List.length_map] at x1 ⊢
  refine call_gives (impl_DisequalityHolds_spec x0 x1) ?_
  refine if_intro (fun h => absurd h (by simp)) (fun _ => ?_)
  refine call_plain (toBindingS_spec s0 hb0) fun u5 μ5 hle5 hf5 => ?_
  replace s0 := s0.mono hle5
  replace s1 := s1.mono hle5
  replace a0 := a0.mono hle5
  replace a1 := a1.mono hle5
  replace x0 := x0.mono hle5
  replace x1 := x1.mono hle5
  obtain ⟨bb5, cc5, rfl, y0⟩ := Rep.sl hf5.rep
  rw [List.length_map] at y0 ⊢
  refine call_gives (eqBindingS_spec x0 y0) ?_
  refine if_intro (fun h => nomatch h) (fun _ => ?_)
  refine call_plain (toBindingS_spec s1 hb1) fun u6 μ6 hle6 hf6 => ?_
  replace s0 := s0.mono hle6
  replace s1 := s1.mono hle6
  replace a0 := a0.mono hle6
  replace a1 := a1.mono hle6
  replace x0 := x0.mono hle6
  replace x1 := x1.mono hle6
  obtain ⟨bb6, cc6, rfl, y1⟩ := Rep.sl hf6.rep
  rw [List.length_map] at y1 ⊢
  refine call_gives (eqBindingS_spec x1 y1) ?_
  refine if_intro (fun h => nomatch h) (fun _ => ?_)
  exact ret_plain rfl
end
end Go.Vx
