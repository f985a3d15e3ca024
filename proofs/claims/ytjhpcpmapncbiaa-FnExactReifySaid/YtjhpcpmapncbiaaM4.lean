/- Texts of the proof, part 4: Vv Vw Wa Wc Xb Xc Xd Wd Wb We Vt2 Wh Xe Xf. -/
import Derived.Test.YtjhpcpmapncbiaaM3
/- Contracts: the program's substitutions: sizes, searches, values put in. -/
namespace Go.Vx
open Go.Proofs Classical
section
variable {μ : Mem}
/-- A closure that counts what a variable stands for. -/
def Counts (k : FuncId) (caps : List Value) (μ : Mem) (c : Int → Nat) : Prop := ∀ n, Gives Try.prog k (.int .i64 n :: caps) μ (.int .i64 (c n))
def cntOf (f : Int → Option T) (n : Int) : Nat := match f n with | some y => y.size | none => 1
theorem subst_var_size (f : Int → Option T) (n : Int) : ((T.var n).subst f).size = cntOf f n := by
  simp only [T.subst, cntOf]
  cases f n <;> rfl
theorem sizeWith_spec {k : FuncId} {caps : List Value} {f : Int → Option T} (hk : Counts k caps μ (cntOf f)) (hf : ∀ n, cntOf f n ≤ 5000) : ∀ (x : T) {v : Value}, RepV μ x.tm.d v →
    Gives Try.prog 201 [v, .func (.func k) #[] caps.toArray] μ (.int .i64 (min (x.subst f).size 5001 : Nat)) := by
  intro x
  induction x with
  | var n =>
    intro v hv
    obtain ⟨p, rfl⟩ := Tm.invV hv
    have := hf n
    refine Spec.mk Try.func201 (by kernel_rfl) ?_
    intro r1
    refine ifd (fun _ => ?_) (fun h => absurd rfl h)
    refine call_gives (hk n) (ret_gives ?_ rfl)
    rw [subst_var_size]
    congr 1
    show (if (5001 : Int) < (cntOf f n : Int) then (5001 : Int) else (cntOf f n : Int)) = _
    rw [if_neg (by omega)]
    omega
  | pair a b iha ihb =>
    intro v hv
    obtain ⟨base', cap', rfl, hsa⟩ := Tm.inv hv
    obtain ⟨ad, ad', p, p', h1, h2, hra, hrb⟩ := T.parts hsa
    have hs : ((T.pair a b).subst f).size = 1 + (a.subst f).size + (b.subst f).size := rfl
    refine Spec.mk Try.func201 (by kernel_rfl) ?_
    intro r1
    refine ifd (fun h => absurd h (by simp)) (fun _ => ?_)
    refine ifd (fun _ => ?_) (fun h => absurd rfl h)
    refine elem_intro h1 ?_
    refine call_gives (iha hra) ?_
    refine ifd (fun h => ret_gives ?_ rfl) (fun h => ?_)
    · rw [hs]; congr 1; omega
    · refine num64 (by omega) (by omega) ?_
      refine elem_intro h2 ?_
      refine call_gives (ihb hrb) ?_
      refine num64 (by omega) (by omega) (ret_gives ?_ rfl)
      rw [hs]
      congr 1
      split <;> omega
  | _ =>
    intro v hv
    obtain ⟨p, rfl⟩ := Tm.invV hv
    refine Spec.mk Try.func201 (by kernel_rfl) ?_
    intro r1
    refine ifd (fun h => absurd h (by simp [T.tm, Tm.kind])) (fun _ => ?_)
    refine ifd (fun h => absurd h (by simp [T.tm, Tm.kind])) (fun _ => ?_)
    exact ret_gives rfl rfl
theorem wrapu64 {n : Int} (h1 : 0 ≤ n) (h2 : n < 18446744073709551616) : IntKind.u64.wrap n = n := by
  have e : IntKind.u64.bits = 64 := rfl
  have e2 : IntKind.u64.signed = false := rfl
  simp only [IntKind.wrap, e, e2, Bool.false_and]
  simp only [show (2 : Int) ^ 64 = 18446744073709551616 from rfl]
  simp; omega
theorem Search_spec {k : FuncId} {caps : List Value} {p : Int → Prop} {n : Nat} (hn : n ≤ 1000000000) (hk : ∀ i : Nat, i < n → Gives Try.prog k (.int .i64 i :: caps) μ (.bool (decide (p i)))) :
    Spec Try.prog 183 [.int .i64 n, .func (.func k) #[] caps.toArray] μ fun v μ' => (∃ i : Nat, v = .int .i64 i ∧ i ≤ n ∧ (i < n → p i) ∧ ∀ j : Nat, j + 1 = i → ¬ p j) ∧ μ' = μ := by
  refine Spec.mk Try.func183 (by kernel_rfl) ?_
  refine loop_intro (fun q : Nat × Nat => q.1 ≤ q.2 ∧ q.2 ≤ n ∧ (q.2 < n → p q.2) ∧ ∀ j : Nat, j + 1 = q.1 → ¬ p j) (fun (i, j) => ⟨[(1, .val (.func (.func k) #[] caps.toArray)), (5, .val (.int .i64 i)), (6, .val (.int .i64 j))], [], 0, μ, Mem.nil⟩) (fun q => q.2 - q.1)
    (0, n) ⟨by simp, by simp, by simp, fun j hj => by simp at hj⟩ (fun (_, _) => ⟨rfl, rfl⟩) ⟨⟨rfl, rfl, rfl, trivial⟩, trivial, rfl, rfl⟩ ?_
  rintro ⟨i, j⟩ ⟨h1, h2, h3, h4⟩
  dsimp only at h1 h2 h3 h4
  refine ifd (fun h => ?_) (fun h => ?_)
  · refine num64 (by omega) (by omega) ?_
    refine num_eq (wrapu64 (by omega) (by omega)) ?_
    refine need_intro (by omega) ?_
    refine num_eq (x := (((i + j) / 2 : Nat) : Int)) ?_ ?_
    · show Int.fdiv ((i : Int) + j) (2 ^ (min (Int.toNat 1) 64)) = _
      rw [show min (Int.toNat 1) 64 = 1 from rfl, show (2 : Int) ^ 1 = 2 from rfl, Int.fdiv_eq_ediv_of_nonneg _ (by omega)]
      omega
    refine num64 (by omega) (by omega) ?_
    refine call_gives (hk ((i + j) / 2) (by omega)) ?_
    refine ifnd (fun hp => ?_) (fun hp => ?_)
    · refine num64 (by omega) (by omega) ⟨((i + j) / 2 + 1, j), ⟨by dsimp only; omega, h2, h3, fun m hm => ?_⟩, by dsimp only; omega, ⟨⟨rfl, rfl, rfl, trivial⟩, trivial, rfl, rfl⟩⟩
      dsimp only at hm
      obtain rfl : m = (i + j) / 2 := by omega
      exact hp
    · exact ⟨(i, (i + j) / 2), ⟨by dsimp only; omega, by dsimp only; omega, fun _ => hp, h4⟩, by dsimp only; omega, ⟨⟨rfl, rfl, rfl, trivial⟩, trivial, rfl, rfl⟩⟩
  · obtain rfl : i = j := by omega
    exact ret_plain ⟨⟨i, rfl, h2, h3, h4⟩, rfl⟩
end
end Go.Vx

/- Contracts: the program's search for a binding. -/
namespace Go.Vx
open Go.Proofs Classical
/-- Variables in order. -/
def Srt (bs : List B) : Prop := ∀ (i j : Nat) b c, i < j → bs[i]? = some b → bs[j]? = some c → b.var < c.var
section
variable {μ : Mem}
theorem B.elem {bs : List B} {base : Option Addr} {n : Nat} (h : Sl μ 5 base n ((bs.map B.bd).map Bd.d)) {i : Nat} {b : B} (hb : bs[i]? = some b) : ∃ ad, ∃ p : Option Addr × Nat, ElemAt μ base n 5 i ad (b.bd.cs p) ∧ RepV μ b.to.tm.d (.agg (b.to.tm.cs p).toArray) := by
  have hb' : (bs.map B.bd)[i]? = some b.bd := by simp [hb]
  obtain ⟨ad, p, h1, h2⟩ := Bd.elem h hb'
  exact ⟨ad, p, h1, Bd.toV h2⟩
def atLeast (bs : List B) (n : Int) (z : Int) : Prop := ∃ b, bs[z.toNat]? = some b ∧ n ≤ b.var
theorem find1_spec {bs : List B} {base : Option Addr} {cap : Nat} {n : Int} {r1 r2 : Nat} {t1 t2 : TypeId} (hsl : Sl μ 5 base bs.length ((bs.map B.bd).map Bd.d)) (h1 : μ r1 = some (.cells #[.slice base bs.length cap] t1 (0, 0))) (h2 : μ r2 = some (.cells #[.int .i64 n] t2 (0, 0))) {i : Nat} (hi : i < bs.length) :
    Gives Try.prog 184 [.int .i64 i, .pointer (some ⟨r1, 0, none⟩), .pointer (some ⟨r2, 0, none⟩)] μ (.bool (decide (atLeast bs n i))) := by
  obtain ⟨b, hb⟩ := at_some hi
  obtain ⟨ad, p, hel, _⟩ := B.elem hsl hb
  refine Spec.mk Try.func184 (by kernel_rfl) ?_
  refine ext_intro [.slice base bs.length cap] rfl (box_at h1) ?_
  refine elem_intro hel ?_
  refine ext_intro [.int .i64 n] rfl (box_at h2) ?_
  refine ret_gives (isI ?_) rfl
  constructor
  · intro h; exact ⟨b, hb, h⟩
  · rintro ⟨c, hc, h⟩
    have hc : bs[i]? = some c := hc
    rw [hb] at hc; cases hc; exact h
/-- Where a variable is bound. -/
def FindR (bs : List B) (n : Int) (v : Value) : Prop := (∃ (i : Nat) (b : B), v = .int .i64 i ∧ bs[i]? = some b ∧ b.var = n) ∨ (v = .int .i64 (-1) ∧ ∀ b ∈ bs, b.var ≠ n)
theorem find_spec {bs : List B} {base : Option Addr} {cap : Nat} {n : Int} (hs : Srt bs) (hlen : bs.length ≤ 1000000000) (hsl : Sl μ 5 base bs.length ((bs.map B.bd).map Bd.d)) :
    Spec Try.prog 121 [.slice base bs.length cap, .int .i64 n] μ fun v μ' => FindR bs n v ∧ μ' = μ := by
  refine Spec.forget (Spec.mk Try.func121 (by kernel_rfl) ?_)
  intro r1 r2
  refine call_frz [0, 1] ?_
  intro μ1 hle1 hno1 hat1 μ2 hle2 hno2 hat2
  have hsl2 := (hsl.mono hle1).mono hle2
  have e1 : μ2 r1 = some (.cells #[.slice base bs.length cap] 33 (0, 0)) := hle2 _ _ hat1
  refine call_go (Search_spec (p := atLeast bs n) hlen fun i hi => find1_spec hsl2 e1 hat2 hi) fun v μ3 hle3 hR => ?_
  obtain ⟨⟨i, rfl, g1, g2, g3⟩, rfl⟩ := hR
  have low : ∀ (j : Nat) b, j < i → bs[j]? = some b → b.var < n := fun j b hj hb => by
    obtain ⟨c, hc⟩ := at_some (l := bs) (i := i - 1) (by omega)
    have h4 : c.var < n := by
      rcases Int.lt_or_le c.var n with h | h
      · exact h
      · exact absurd ⟨c, hc, h⟩ (g3 (i - 1) (by omega))
    rcases Nat.lt_or_ge j (i - 1) with h | h
    · have := hs j (i - 1) b c h hb hc; omega
    · obtain rfl : j = i - 1 := by omega
      rw [hb] at hc; cases hc; exact h4
  have none : (∀ b, bs[i]? = some b → b.var ≠ n) → FindR bs n (.int .i64 (-1)) := fun h => .inr ⟨rfl, fun b hb => by
    obtain ⟨j, hj⟩ := List.mem_iff_getElem?.1 hb
    rcases Nat.lt_or_ge j i with h1 | h1
    · have := low j b h1 hj; omega
    · have hjl := (List.getElem?_eq_some_iff.1 hj).1
      obtain ⟨c, hc⟩ := at_some (l := bs) (i := i) (by omega)
      obtain ⟨c', hc', h2⟩ := g2 (by omega)
      have hc' : bs[i]? = some c' := hc'
      rw [hc] at hc'; cases hc'
      have := h c hc
      rcases Nat.eq_or_lt_of_le h1 with h3 | h3
      · subst h3; rw [hj] at hc; cases hc; omega
      · have := hs i j c b h3 hc hj; omega⟩
  refine ext_intro [.slice base bs.length cap] rfl (box_at e1) ?_
  refine ifd (fun h => ?_) (fun h => ?_)
  · obtain ⟨b, hb⟩ := at_some (l := bs) (i := i) (by omega)
    obtain ⟨ad, p, hel, _⟩ := B.elem hsl2 hb
    refine ext_intro [.slice base bs.length cap] rfl (box_at e1) ?_
    refine elem_intro hel ?_
    refine ext_intro [.int .i64 n] rfl (box_at hat2) ?_
    refine ifd (fun h2 => ?_) (fun h2 => ?_)
    · exact ret_plain (.inl ⟨i, b, rfl, hb, h2⟩)
    · exact ret_plain (none fun c hc => by rw [hb] at hc; cases hc; exact h2)
  · exact ret_plain (none fun c hc => absurd (List.getElem?_eq_some_iff.1 hc).1 (by omega))
end
end Go.Vx

/- Contracts: the program's put and Instantiate. -/
namespace Go.Vx
open Go.Proofs Classical
theorem Srt.tail {b : B} {bs : List B} (h : Srt (b :: bs)) : Srt bs := fun i j c d hij hc hd => h (i + 1) (j + 1) c d (by omega) (by simpa using hc) (by simpa using hd)
theorem sub_some : ∀ {bs : List B} (_ : Srt bs) {i : Nat} {b : B} {n : Int}, bs[i]? = some b → b.var = n → sub bs n = some b.to
  | [], _, i, b, n, h, _ => by simp at h
  | c :: bs, hs, 0, b, n, h, e => by
    simp only [List.getElem?_cons_zero, Option.some.injEq] at h
    subst h
    rw [sub, if_pos e]
  | c :: bs, hs, i + 1, b, n, h, e => by
    have := hs 0 (i + 1) c b (by omega) rfl h
    rw [sub, if_neg (by omega)]
    exact sub_some hs.tail (by simpa using h) e
theorem sub_none : ∀ {bs : List B} {n : Int}, (∀ b ∈ bs, b.var ≠ n) → sub bs n = none
  | [], _, _ => rfl
  | c :: bs, n, h => by
    rw [sub, if_neg (h c (by simp))]
    exact sub_none fun b hb => h b (by simp [hb])
theorem sub_ok : ∀ {bs : List B} (_ : ∀ b ∈ bs, b.to.ok) {n : Int} {y : T}, sub bs n = some y → y.ok
  | [], _, n, y, h => by simp [sub] at h
  | c :: bs, hk, n, y, h => by
    rw [sub] at h
    split at h
    · cases h; exact hk c (by simp)
    · exact sub_ok (fun b hb => hk b (by simp [hb])) h
theorem valsOk.srt {l : List Bd} (h : valsOk l) : Srt (l.map Bd.b) := by
  intro i j b c hij hb hc
  simp only [List.getElem?_map, Option.map_eq_some_iff] at hb hc
  obtain ⟨b, hb, rfl⟩ := hb
  obtain ⟨c, hc, rfl⟩ := hc
  show b.var < c.var
  induction j generalizing c with
  | zero => omega
  | succ j ih =>
    have hj : j < l.length := by have := (List.getElem?_eq_some_iff.1 hc).1; omega
    obtain ⟨d, hd⟩ := at_some hj
    have h1 := (h.2 (j + 1) c hc).2.2 j d rfl hd
    rcases Nat.lt_or_ge i j with h2 | h2
    · have := ih h2 d hd; omega
    · obtain rfl : i = j := by omega
      rw [hb] at hd; cases hd; exact h1
section
variable {μ : Mem}
theorem put1_looks {bs : List B} {base : Option Addr} {cap : Nat} {r : Nat} {ty : TypeId} (hs : Srt bs) (hlen : bs.length ≤ 1000000000) (hsl : Sl μ 5 base bs.length ((bs.map B.bd).map Bd.d)) (h : μ r = some (.cells #[.slice base bs.length cap] ty (0, 0))) :
    Looks 156 [.pointer (some ⟨r, 0, none⟩)] μ (sub bs) := fun μ' hle n => by
  have hsl := hsl.mono hle
  have h : μ' r = _ := hle _ _ h
  refine Spec.mk Try.func156 (by kernel_rfl) ?_
  intro r1
  refine ext_intro [.slice base bs.length cap] rfl (box_at h) ?_
  refine call_plain (find_spec hs hlen hsl) fun v μ2 hle2 hR => ?_
  obtain ⟨hR, e2⟩ := hR
  obtain rfl := e2.symm
  rcases hR with ⟨i, b, rfl, hb, hn⟩ | ⟨rfl, hno⟩
  · rw [sub_some hs hb hn]
    obtain ⟨ad, p, hel, hto⟩ := B.elem hsl hb
    refine ifd (fun _ => ?_) (fun h => absurd h (by omega))
    refine ext_intro [.slice base bs.length cap] rfl (box_at h) ?_
    refine elem_intro hel ?_
    exact ret_plain ⟨_, rfl, hto⟩
  · rw [sub_none hno]
    refine ifd (fun h => absurd h (by omega)) (fun _ => ?_)
    exact ret_plain rfl
theorem replaced1_counts {k : FuncId} {caps : List Value} {f : Int → Option T} {r : Nat} {ty : TypeId} (hk : Looks k caps μ f) (hf : ∀ n y, f n = some y → y.ok) (h : μ r = some (.cells #[.func (.func k) #[] caps.toArray] ty (0, 0))) :
    Counts 202 [.pointer (some ⟨r, 0, none⟩)] μ (cntOf f) := fun n => by
  refine (Spec.forget (R := fun v => v = .int .i64 (cntOf f n)) (Spec.mk Try.func202 (by kernel_rfl) ?_))
  refine ext_intro [.func (.func k) #[] caps.toArray] rfl (box_at h) ?_
  refine call_plain (hk μ (Mem.Le.refl μ) n) fun v μ1 hle1 hR => ?_
  simp only [cntOf]
  cases hs : f n with
  | some y =>
    rw [hs] at hR
    obtain ⟨tv, rfl, htv⟩ := hR
    obtain ⟨q, rfl⟩ := Tm.invV htv
    intro r3
    refine if_intro (fun _ => ?_) (fun h => nomatch h)
    refine call_gives (nodesOf_spec y.tm htv (by decide) (by decide)) ?_
    have hy := (hf n y hs).tm
    rw [Tm.nodes_pos hy.1 (by have := hy.2; omega), T.cnt_tm]
    exact ret_plain rfl
  | none =>
    rw [hs] at hR
    obtain rfl := hR
    intro r3
    refine if_intro (fun h => nomatch h) (fun _ => ?_)
    exact ret_plain rfl
/-- A substituted term, if it is not too big. -/
noncomputable def fit (x : T) : Option T := if x.size ≤ 5000 then some x else none
theorem replaced_spec {k : FuncId} {caps : List Value} {f : Int → Option T} (x : T) {v : Value} (hk : Looks k caps μ f) (hf : ∀ n y, f n = some y → y.ok) (hv : RepV μ x.tm.d v) :
    Spec Try.prog 155 [v, .func (.func k) #[] caps.toArray] μ fun v μ' => optV (fun y tv => Fresh μ μ' y.tm.d tv) (fit (x.subst f)) v := by
  obtain ⟨p, rfl⟩ := Tm.invV hv
  have hc : ∀ n, cntOf f n ≤ 5000 := fun n => by
    simp only [cntOf]
    split
    · rename_i y hy
      exact (hf n y hy).2
    · omega
  refine Spec.mk Try.func155 (by kernel_rfl) ?_
  intro r1 r2 r3
  refine call_frz [1] ?_
  intro μ1 hle1 hno1 hat1
  have hk1 : Looks k caps μ1 f := fun μ' h => hk μ' (hle1.trans h)
  refine call_go (sizeWith_spec (replaced1_counts hk1 hf hat1) hc x (hv.mono hle1)) fun v μ2 hle2 hR => ?_
  obtain ⟨rfl, e2⟩ := hR
  obtain rfl := e2.symm
  refine ifd (fun h => ?_) (fun h => ?_)
  · rw [fit, if_neg (by omega)]
    exact ret_plain rfl
  · rw [fit, if_pos (by omega)]
    refine ext_intro [.func (.func k) #[] caps.toArray] rfl (box_at hat1) ?_
    refine call_plain (mapVars_spec x hk1 (hv.mono hle1)) fun v2 μ3 hle3 hR3 => ?_
    obtain ⟨q, rfl⟩ := Tm.invV hR3.rep
    exact ret_plain ⟨_, rfl, hR3.mono hle1 (Mem.Le.refl _)⟩
theorem put_spec {bs : List B} {base : Option Addr} {cap : Nat} (x : T) {v : Value} (hs : Srt bs) (hlen : bs.length ≤ 1000000000) (hk : ∀ b ∈ bs, b.to.ok) (hsl : Sl μ 5 base bs.length ((bs.map B.bd).map Bd.d)) (hv : RepV μ x.tm.d v) :
    Spec Try.prog 77 [.slice base bs.length cap, v] μ fun v μ' => optV (fun y tv => Fresh μ μ' y.tm.d tv) (fit (x.subst (sub bs))) v := by
  obtain ⟨p, rfl⟩ := Tm.invV hv
  refine Spec.mk Try.func77 (by kernel_rfl) ?_
  intro r1 r2 r3
  refine call_frz [0] ?_
  intro μ1 hle1 hno1 hat1
  refine call_go (replaced_spec x (put1_looks hs hlen (hsl.mono hle1) hat1) (fun n y h => sub_ok hk h) (hv.mono hle1)) fun v μ2 hle2 hR => ?_
  cases hf : fit (x.subst (sub bs)) with
  | some y =>
    rw [hf] at hR
    obtain ⟨tv, rfl, htv⟩ := hR
    obtain ⟨q, rfl⟩ := Tm.invV htv.rep
    exact ret_plain ⟨_, rfl, htv.mono hle1 (Mem.Le.refl _)⟩
  | none =>
    rw [hf] at hR
    obtain rfl := hR
    exact ret_plain rfl
end
end Go.Vx

/- Contracts: terms compared. -/
namespace Go.Vx
open Go.Proofs Classical
def sgn (b : Bool) : Int := if b then -1 else 1
/-- The comparison of two terms' own fields, then the rest. -/
noncomputable def hdCmp (x y : Tm) (rest : Int) : Int :=
  if x.kind ≠ y.kind then sgn (decide (x.kind < y.kind)) else if x.num ≠ y.num then sgn (decide (x.num < y.num)) else if x.name ≠ y.name then sgn (Op.bytesLess x.name.data.toList y.name.data.toList) else rest
noncomputable def T.cmp : T → T → Int
  | .pair a b, .pair c d => if a.cmp c = 0 then b.cmp d else a.cmp c
  | .pair a b, .nil => hdCmp (T.pair a b).tm T.nil.tm 0
  | .pair a b, .var n => hdCmp (T.pair a b).tm (T.var n).tm 0
  | .pair a b, .sym n => hdCmp (T.pair a b).tm (T.sym n).tm 0
  | .pair a b, .num n => hdCmp (T.pair a b).tm (T.num n).tm 0
  | .nil, y => hdCmp T.nil.tm y.tm 0
  | .var n, y => hdCmp (T.var n).tm y.tm 0
  | .sym n, y => hdCmp (T.sym n).tm y.tm 0
  | .num n, y => hdCmp (T.num n).tm y.tm 0
theorem sgn_ne (b : Bool) : sgn b ≠ 0 := by cases b <;> simp [sgn]
theorem hdCmp_zero {x y : Tm} {r : Int} : hdCmp x y r = 0 ↔ x.kind = y.kind ∧ x.num = y.num ∧ x.name = y.name ∧ r = 0 := by
  unfold hdCmp
  split
  · rename_i h; exact ⟨fun k => absurd k (sgn_ne _), fun k => absurd k.1 h⟩
  · split
    · rename_i h; exact ⟨fun k => absurd k (sgn_ne _), fun k => absurd k.2.1 h⟩
    · split
      · rename_i h; exact ⟨fun k => absurd k (sgn_ne _), fun k => absurd k.2.2.1 h⟩
      · rename_i h1 h2 h3
        exact ⟨fun k => ⟨Classical.not_not.1 h1, Classical.not_not.1 h2, Classical.not_not.1 h3, k⟩, fun k => k.2.2.2⟩
theorem T.cmp_zero : ∀ x y : T, x.cmp y = 0 ↔ x = y := by
  intro x
  induction x with
  | pair a b iha ihb =>
    intro y
    cases y with
    | pair c d =>
      rw [T.cmp, T.pair.injEq, ← iha, ← ihb]
      split
      · rename_i h; exact ⟨fun k => ⟨h, k⟩, fun k => k.2⟩
      · rename_i h; exact ⟨fun k => absurd k h, fun k => absurd k.1 h⟩
    | _ => rw [T.cmp, hdCmp_zero]; simp [T.tm, Tm.kind]
  | _ =>
    intro y
    rw [T.cmp, hdCmp_zero]
    cases y <;> simp [T.tm, Tm.kind, Tm.num, Tm.name]
theorem hd1 {x y : Tm} {r : Int} (h : ¬ x.kind = y.kind) : hdCmp x y r = sgn (decide (x.kind < y.kind)) := by rw [hdCmp, if_pos h]
theorem hd2 {x y : Tm} {r : Int} (h1 : x.kind = y.kind) (h : ¬ x.num = y.num) : hdCmp x y r = sgn (decide (x.num < y.num)) := by rw [hdCmp, if_neg (fun k => k h1), if_pos h]
theorem hd3 {x y : Tm} {r : Int} (h1 : x.kind = y.kind) (h2 : x.num = y.num) (h : ¬ x.name = y.name) : hdCmp x y r = sgn (Op.bytesLess x.name.data.toList y.name.data.toList) := by rw [hdCmp, if_neg (fun k => k h1), if_neg (fun k => k h2), if_pos h]
theorem hd4 {x y : Tm} {r : Int} (h1 : x.kind = y.kind) (h2 : x.num = y.num) (h : x.name = y.name) : hdCmp x y r = r := by rw [hdCmp, if_neg (fun k => k h1), if_neg (fun k => k h2), if_neg (fun k => k h)]
section
variable {μ : Mem}
theorem orderInts_spec (a b : Int) (h : ¬ a = b) : Gives Try.prog 182 [.int .i64 a, .int .i64 b] μ (.int .i64 (sgn (decide (a < b)))) := by
  refine Spec.mk Try.func182 (by kernel_rfl) ?_
  refine ifd (fun h1 => ret_gives ?_ rfl) (fun h1 => ?_)
  · rw [decide_eq_true h1]; rfl
  refine ifd (fun h2 => ret_gives ?_ rfl) (fun h2 => by omega)
  rw [decide_eq_false h1]; rfl
theorem l02Sign_spec (b : Bool) : Gives Try.prog 203 [.bool b] μ (.int .i64 (sgn b)) := by
  refine Spec.mk Try.func203 (by kernel_rfl) ?_
  refine if_intro (fun h1 => ret_gives ?_ rfl) (fun h1 => ret_gives ?_ rfl)
  · rw [h1]; rfl
  · rw [h1]; rfl
noncomputable def T.rest : T → T → Int
  | .pair a b, .pair c d => if a.cmp c = 0 then b.cmp d else a.cmp c
  | _, _ => 0
theorem T.cmp_eq (x y : T) : x.cmp y = hdCmp x.tm y.tm (x.rest y) := by
  cases x with
  | pair a b =>
    cases y with
    | pair c d => rw [T.cmp, hd4 (x := (T.pair a b).tm) (y := (T.pair c d).tm) rfl rfl rfl]; rfl
    | _ => rw [T.cmp]; rfl
  | _ => rw [T.cmp]; rfl
theorem T.rest_at {x y : T} {i : Nat} {p q : T} (h : ∀ j p q, j < i → x.args[j]? = some p → y.args[j]? = some q → p.cmp q = 0) (hp : x.args[i]? = some p) (hq : y.args[i]? = some q) (hne : p.cmp q ≠ 0) : x.rest y = p.cmp q := by
  cases x with
  | pair a b =>
    cases y with
    | pair c d =>
      simp only [T.rest]
      match i, hp, hq with
      | 0, hp, hq => cases hp; cases hq; rw [if_neg hne]
      | 1, hp, hq =>
        cases hp; cases hq
        have := h 0 a c (by omega) rfl rfl
        rw [if_pos this]
      | i + 2, hp, hq => simp [T.args] at hp
    | _ => simp [T.args] at hq
  | _ => simp [T.args] at hp
theorem T.rest_zero {x y : T} (h : ∀ (j : Nat) p q, j < x.args.length → x.args[j]? = some p → y.args[j]? = some q → p.cmp q = 0) : x.rest y = 0 := by
  cases x with
  | pair a b =>
    cases y with
    | pair c d =>
      have h0 := h 0 a c (by simp [T.args]) rfl rfl
      have h1 := h 1 b d (by simp [T.args]) rfl rfl
      simp only [T.rest]
      rw [if_pos h0, h1]
    | _ => rfl
  | _ => rfl
theorem T.args_kind {x y : T} (h : x.tm.kind = y.tm.kind) : x.args.length = y.args.length := by
  cases x <;> cases y <;> simp_all [T.tm, Tm.kind, T.args]
theorem T.kind4 {x : T} (h : x.tm.kind = 4) : ∃ a b, x = .pair a b := by
  cases x <;> simp_all [T.tm, Tm.kind]
theorem T.arg {μ : Mem} {x : T} {base : Option Addr} (h : Sl μ 4 base x.args.length ((x.args.map T.tm).map Tm.d)) {i : Nat} {y : T} (hy : x.args[i]? = some y) : ∃ ad, ∃ p : Option Addr × Nat, ElemAt μ base x.args.length 4 i ad (y.tm.cs p) ∧ RepV μ y.tm.d (.agg (y.tm.cs p).toArray) :=
  Tm.elem h (by simp [hy])
theorem orderTerms_spec : ∀ (x y : T) {v w : Value}, RepV μ x.tm.d v → RepV μ y.tm.d w → Gives Try.prog 158 [v, w] μ (.int .i64 (x.cmp y)) :=
  T.ind fun x ih y v w hv hw => by
    obtain ⟨b1, c1, rfl, hs1⟩ := T.inv hv
    obtain ⟨b2, c2, rfl, hs2⟩ := T.inv hw
    rw [T.cmp_eq]
    refine Spec.mk Try.func158 (by kernel_rfl) ?_
    intro r1 r2
    refine ifnd (fun h => ?_) (fun h1 => ?_)
    · exact call_gives (orderInts_spec _ _ h) (ret_gives (by rw [hd1 h]) rfl)
    refine ifnd (fun h => ?_) (fun h2 => ?_)
    · exact call_gives (orderInts_spec _ _ h) (ret_gives (by rw [hd2 h1 h]) rfl)
    refine ifnd (fun h => ?_) (fun h3 => ?_)
    · refine if_intro (fun h4 => ret_gives ?_ rfl) (fun h4 => ret_gives ?_ rfl)
      · rw [hd3 h1 h2 h, h4]; rfl
      · rw [hd3 h1 h2 h, h4]; rfl
    rw [hd4 h1 h2 h3]
    refine ifnd (fun h => ?_) (fun h4 => ?_)
    · refine ret_gives ?_ rfl
      have : x.rest y = 0 := by cases x <;> first | rfl | exact absurd rfl h
      rw [this]
    obtain ⟨a, b, rfl⟩ := T.kind4 h4
    obtain ⟨c, d, rfl⟩ := T.kind4 (h1 ▸ h4)
    obtain ⟨ad1, p1, e1, g1⟩ := T.arg hs1 (i := 0) rfl
    obtain ⟨ad2, p2, e2, g2⟩ := T.arg hs2 (i := 0) rfl
    obtain ⟨ad3, p3, e3, g3⟩ := T.arg hs1 (i := 1) rfl
    obtain ⟨ad4, p4, e4, g4⟩ := T.arg hs2 (i := 1) rfl
    refine elem_intro e1 (elem_intro e2 (call_gives (ih a (by simp [T.args]) c g1 g2) ?_))
    simp only [T.rest]
    refine ifnd (fun h => ?_) (fun h5 => ?_)
    · rw [if_neg h]; exact ret_gives rfl rfl
    · rw [if_pos h5]
      exact elem_intro e3 (elem_intro e4 (call_gives (ih b (by simp [T.args]) d g3 g4) (ret_gives rfl rfl)))
theorem l02Cmp_spec : ∀ (x y : T) {v w : Value}, RepV μ x.tm.d v → RepV μ y.tm.d w → Gives Try.prog 157 [v, w] μ (.int .i64 (x.cmp y)) :=
  T.ind fun x ih y v w hv hw => by
    obtain ⟨b1, c1, rfl, hs1⟩ := T.inv hv
    obtain ⟨b2, c2, rfl, hs2⟩ := T.inv hw
    have hn := T.args_le x
    rw [T.cmp_eq]
    refine Spec.mk Try.func157 (by kernel_rfl) ?_
    intro r1 r2
    refine ifnd (fun h => ?_) (fun h1 => ?_)
    · exact call_gives (l02Sign_spec _) (ret_gives (by rw [hd1 h]) rfl)
    refine ifnd (fun h => ?_) (fun h2 => ?_)
    · exact call_gives (l02Sign_spec _) (ret_gives (by rw [hd2 h1 h]) rfl)
    refine ifnd (fun h => ?_) (fun h3 => ?_)
    · exact call_gives (l02Sign_spec _) (ret_gives (by rw [hd3 h1 h2 h]) rfl)
    rw [hd4 h1 h2 h3]
    have hlen := T.args_kind h1
    refine loop_intro (fun i : Nat => i ≤ x.args.length ∧ ∀ j p q, j < i → x.args[j]? = some p → y.args[j]? = some q → p.cmp q = 0) (fun i => ⟨[(2, .loc 0 r1 0), (3, .loc 1 r2 0), (5, .val (.int .i64 i))], [(0, some (.cells r1 [.val (.int .i64 x.tm.kind), .val (.int .i64 x.tm.num), .val (.string x.tm.name), .val (.slice b1 x.args.length c1)] 30)), (1, some (.cells r2 [.val (.int .i64 y.tm.kind), .val (.int .i64 y.tm.num), .val (.string y.tm.name), .val (.slice b2 y.args.length c2)] 30))], 2, μ, Mem.nil⟩) (fun i => x.args.length - i)
      0 ⟨by omega, fun j p q hj => by omega⟩ (fun i => ⟨rfl, rfl⟩) ⟨⟨rfl, rfl, rfl, trivial⟩, ⟨rfl, rfl, trivial⟩, rfl, rfl⟩ ?_
    rintro i ⟨hi, hz⟩
    refine ifd (fun h => ?_) (fun h => ?_)
    · refine ifd (fun h' => ?_) (fun h' => by omega)
      obtain ⟨p, hp⟩ := at_some (l := x.args) (i := i) (by omega)
      obtain ⟨q, hq⟩ := at_some (l := y.args) (i := i) (by omega)
      obtain ⟨ad1, p1, e1, g1⟩ := T.arg hs1 hp
      obtain ⟨ad2, p2, e2, g2⟩ := T.arg hs2 hq
      refine elem_intro e1 (elem_intro e2 (call_gives (ih p (mem_at hp) q g1 g2) ?_))
      refine ifnd (fun h5 => ?_) (fun h5 => ?_)
      · rw [T.rest_at hz hp hq h5]; exact ret_gives rfl rfl
      · refine num64 (by omega) (by omega) ⟨i + 1, ⟨by omega, fun j p' q' hj hp' hq' => ?_⟩, by omega, ⟨⟨rfl, rfl, rfl, trivial⟩, ⟨rfl, rfl, trivial⟩, rfl, rfl⟩⟩
        rcases Nat.lt_or_ge j i with h6 | h6
        · exact hz j p' q' h6 hp' hq'
        · obtain rfl : j = i := by omega
          rw [hp] at hp'; rw [hq] at hq'; cases hp'; cases hq'; exact h5
    · obtain rfl : i = x.args.length := by omega
      rw [T.rest_zero hz]
      exact ret_gives rfl rfl
theorem equalTerms_spec (x y : T) {v w : Value} (hv : RepV μ x.tm.d v) (hw : RepV μ y.tm.d w) : Gives Try.prog 85 [v, w] μ (.bool (decide (x = y))) := by
  obtain ⟨p, rfl⟩ := Tm.invV hv
  obtain ⟨q, rfl⟩ := Tm.invV hw
  refine Spec.mk Try.func85 (by kernel_rfl) ?_
  intro r1 r2
  exact call_gives (orderTerms_spec x y hv hw) (ret_gives (isI (T.cmp_zero x y)) rfl)
theorem l02Same_spec (x y : T) {v w : Value} (hv : RepV μ x.tm.d v) (hw : RepV μ y.tm.d w) : Gives Try.prog 82 [v, w] μ (.bool (decide (x = y))) := by
  obtain ⟨p, rfl⟩ := Tm.invV hv
  obtain ⟨q, rfl⟩ := Tm.invV hw
  refine Spec.mk Try.func82 (by kernel_rfl) ?_
  intro r1 r2
  exact call_gives (l02Cmp_spec x y hv hw) (ret_gives (isI (T.cmp_zero x y)) rfl)
/-- A variable as a term. -/
def varV (n : Int) : Value := .agg #[.int .i64 1, .int .i64 n, .string ⟨#[]⟩, .slice none 0 0]
theorem varV_own (n : Int) : OwnV (T.var n).tm.d Mem.nil (varV n) := by
  rw [T.d_eq]
  exact ⟨_, rfl, OwnS.int (OwnS.int (OwnS.str (OwnS.last (Own.nilSl 4))))⟩
theorem varV_rep (n : Int) : RepV μ (T.var n).tm.d (varV n) := (varV_own n).rep (fun _ _ h => nomatch h)
theorem variable_spec (n : Int) : Gives Try.prog 84 [.int .i64 n] μ (varV n) := by
  refine Spec.mk Try.func84 (by kernel_rfl) ?_
  intro r1
  exact ret_gives rfl rfl
theorem l02Var_spec (n : Int) : Gives Try.prog 81 [.int .i64 n] μ (varV n) := by
  refine Spec.mk Try.func81 (by kernel_rfl) ?_
  intro r1
  exact ret_gives rfl rfl
end
end Go.Vx

/- Contracts: variables in the order in which they come. -/
namespace Go.Vx
open Go.Proofs Classical
noncomputable def ord (acc : List Int) (n : Int) : List Int := if n ∈ acc then acc else acc ++ [n]
noncomputable def ordAll (acc vs : List Int) : List Int := vs.foldl ord acc
theorem ordAll_append (acc a b : List Int) : ordAll acc (a ++ b) = ordAll (ordAll acc a) b := List.foldl_append
theorem ord_length (acc : List Int) (n : Int) : (ord acc n).length ≤ acc.length + 1 := by unfold ord; split <;> simp
theorem ordAll_length : ∀ (vs acc : List Int), (ordAll acc vs).length ≤ acc.length + vs.length
  | [], acc => by simp [ordAll]
  | n :: vs, acc => by
    have h1 := ordAll_length vs (ord acc n)
    have h2 := ord_length acc n
    simp only [ordAll, List.foldl_cons, List.length_cons] at *
    omega
theorem ord_mem (acc : List Int) (n m : Int) : m ∈ ord acc n ↔ m = n ∨ m ∈ acc := by
  unfold ord
  split
  · rename_i h
    exact ⟨.inr, fun k => k.elim (fun e => e ▸ h) id⟩
  · simp only [List.mem_append, List.mem_singleton]
    exact or_comm
theorem ordAll_mem : ∀ (vs acc : List Int) (m : Int), m ∈ ordAll acc vs ↔ m ∈ vs ∨ m ∈ acc
  | [], acc, m => by simp [ordAll]
  | n :: vs, acc, m => by
    have := ordAll_mem vs (ord acc n) m
    simp only [ordAll, List.foldl_cons] at *
    rw [this, ord_mem, List.mem_cons]
    constructor
    · rintro (h | h | h) <;> simp [h]
    · rintro ((h | h) | h) <;> simp [h]
theorem ord_nodup {acc : List Int} (h : acc.Nodup) (n : Int) : (ord acc n).Nodup := by
  unfold ord
  split
  · exact h
  · rename_i hn
    refine List.nodup_append.2 ⟨h, by simp, fun a ha b hb => ?_⟩
    simp only [List.mem_singleton] at hb
    subst hb
    exact fun e => hn (e ▸ ha)
theorem ordAll_nodup : ∀ (vs : List Int) {acc : List Int}, acc.Nodup → (ordAll acc vs).Nodup
  | [], _, h => h
  | n :: vs, acc, h => ordAll_nodup vs (ord_nodup h n)
section
variable {μ : Mem}
/-- What the program's closure owns: the set of those seen, and those in order. -/
def OrdInv (rm ro : Nat) (acc : List Int) (h : Mem) : Prop := ∃ r rr cap l, h rm = some (.cells #[.map (some r)] 224 (0, 0)) ∧ h ro = some (.cells #[.slice (some ⟨rr, 0, none⟩) acc.length cap] 169 (0, 0)) ∧
  h r = some (mapO l) ∧ MapOk IntKey l ∧ (∀ n, mget l (.int .i64 n) = if n ∈ acc then some (.bool true) else none) ∧ RowO h rr cap 3 1 (ints acc)
theorem orderedVars1_spec {rm ro : Nat} {acc : List Int} {h : Mem} (n : Int) (hb : acc.length ≤ 1000000000000) (H : OrdInv rm ro acc h) :
    SpecH Try.prog 205 [.int .i64 n, .pointer (some ⟨rm, 0, none⟩), .pointer (some ⟨ro, 0, none⟩)] μ h fun v μ' h' => v = .tuple #[] ∧ μ' = μ ∧ OrdInv rm ro (ord acc n) h' := by
  have H0 := H
  obtain ⟨r, rr, cap, l, h1, h2, h3, hk, hg, hr⟩ := H
  refine SpecH.mk [] Try.func205 (by kernel_rfl) ?_
  refine own_intro [.map (some r)] rfl (box_at h1) ?_
  by_cases hn : n ∈ acc
  · refine look_intro l (some (.bool true)) h3 (hk.weaken (by rintro _ ⟨n, rfl⟩; rfl)) rfl (by rw [hg, if_pos hn]) ?_
    refine if_intro (fun h => nomatch h) (fun _ => ?_)
    exact ret_plain ⟨rfl, rfl, by rw [ord, if_pos hn]; exact H0⟩
  · refine look_intro l none h3 (hk.weaken (by rintro _ ⟨n, rfl⟩; rfl)) rfl (by rw [hg, if_neg hn]) ?_
    refine if_intro (fun _ => ?_) (fun h => nomatch h)
    obtain ⟨cs, hcs⟩ := hr.obj
    have e1 : rm ≠ r := ne_of_obj h1 h3 (by simp [mapO])
    have e2 : ro ≠ r := ne_of_obj h2 h3 (by simp [mapO])
    have e3 : rr ≠ r := ne_of_obj hcs h3 (by simp [mapO])
    have e4 : rm ≠ ro := ne_of_obj h1 h2 (by simp)
    have e5 : rr ≠ rm := ne_of_obj hcs h1 (by simp)
    have e6 : rr ≠ ro := ne_of_obj hcs h2 (by simp)
    refine own_intro [.map (some r)] rfl (box_at h1) ?_
    refine upd_intro l h3 (hk.weaken (by rintro _ ⟨n, rfl⟩; rfl)) rfl ?_
    generalize hl' : mset l (.int .i64 n) (.bool true) = l'
    have g2 : (h.set r (mapO l')) ro = some (.cells #[.slice (some ⟨rr, 0, none⟩) acc.length cap] 169 (0, 0)) := by rw [Mem.set_ne e2]; exact h2
    refine own_intro [.slice (some ⟨rr, 0, none⟩) acc.length cap] rfl (box_at g2) ?_
    intro r1
    refine app_intro (ints acc) (by simp [ints]) (hr.set_ne e3) ?_ ?_ fun r' cap' o hrow hor => ?_
    · show (acc.length + 1) * 8 ≤ _; omega
    · exact Nat.le_trans (show acc.length + 1 ≤ 1000000000001 by omega) (by decide)
    dsimp only at hrow hor
    have f1 : rm ≠ r' := by
      rcases hor with e | ⟨e, _⟩
      · rw [e]; exact e5.symm
      · exact ne_of_none (by rw [Mem.set_ne e1]; exact h1) e
    have f2 : ro ≠ r' := by
      rcases hor with e | ⟨e, _⟩
      · rw [e]; exact e6.symm
      · exact ne_of_none g2 e
    have f3 : r ≠ r' := by
      rcases hor with e | ⟨e, _⟩
      · rw [e]; exact e3.symm
      · exact ne_of_none (Mem.set_at _ _ _) e
    refine sto_intro [.slice (some ⟨rr, 0, none⟩) acc.length cap] 169 (by show (Mem.set (Mem.set h r (mapO l')) r' o) ro = _; rw [Mem.set_ne f2]; exact g2) rfl (Nat.le_refl _) ?_
    refine ret_plain ⟨rfl, rfl, r, r', cap', l', ?_, ?_, ?_, ?_, ?_, ?_⟩
    · show (Mem.set (Mem.set (Mem.set h r (mapO l')) r' o) ro _) rm = _
      rw [Mem.set_ne e4, Mem.set_ne f1, Mem.set_ne e1]; exact h1
    · show (Mem.set (Mem.set (Mem.set h r (mapO l')) r' o) ro _) ro = _
      rw [Mem.set_at, ord, if_neg hn]
      simp
    · show (Mem.set (Mem.set (Mem.set h r (mapO l')) r' o) ro _) r = _
      rw [Mem.set_ne e2.symm, Mem.set_ne f3, Mem.set_at]
    · rw [← hl']; exact hk.int _
    · intro m
      rw [← hl', mget_int, hg, ord, if_neg hn]
      by_cases e : m = n
      · subst e; rw [if_pos rfl, if_pos (by simp)]
      · rw [if_neg e]
        by_cases e' : m ∈ acc
        · rw [if_pos e', if_pos (by simp [e'])]
        · rw [if_neg e', if_neg (by simp [e', e])]
    · have e : ints (ord acc n) = ints acc ++ [.int .i64 n] := by rw [ord, if_neg hn]; simp [ints]
      rw [e]
      exact hrow.set_ne f2.symm
theorem flat_vars_length {xs : List T} (hx : ∀ x ∈ xs, x.size ≤ 5000) : (xs.flatMap T.vars).length ≤ xs.length * 5000 := by
  induction xs with
  | nil => simp
  | cons x xs ih =>
    have h1 := T.vars_size x
    have h2 := hx x (by simp)
    have h3 := ih fun y hy => hx y (by simp [hy])
    simp only [List.flatMap_cons, List.length_append, List.length_cons]
    omega
theorem flat_take {α β : Type} {f : α → List β} {xs : List α} {i : Nat} {x : α} (h : xs[i]? = some x) : (xs.take (i + 1)).flatMap f = (xs.take i).flatMap f ++ f x := by
  rw [List.take_add_one, h, Option.toList_some, List.flatMap_append]; simp
theorem impl_orderedVars_spec {xs : List T} {base : Option Addr} {cap : Nat} (hsl : Sl μ 4 base xs.length ((xs.map T.tm).map Tm.d)) (hx : ∀ x ∈ xs, x.size ≤ 5000) (hn : xs.length ≤ 10000000) :
    Spec Try.prog 161 [.slice base xs.length cap] μ fun v μ' => RepV μ' (.sl 1 ((ordAll [] (xs.flatMap T.vars)).map D.i)) v := by
  have htot := flat_vars_length hx
  refine Spec.mkO [7, 3, 4] Try.func161 (by kernel_rfl) ?_
  intro r7 hm7 ho7 r3 hm3 ho3
  refine sto_intro [.slice none 0 0] 169 (Mem.set_at _ _ _) rfl (Nat.le_refl _) ?_
  intro rM hmM hoM r4 hm4 ho4
  refine sto_intro [.map none] 224 (Mem.set_at _ _ _) rfl (Nat.le_refl _) ?_
  generalize hh : Mem.set (Mem.set _ r4 _) r4 _ = h0
  have n1 : r7 ≠ r3 := fun e => by subst e; simp [Mem.set_get] at ho3
  have n2 : rM ≠ r3 := fun e => by subst e; simp [Mem.set_get] at hoM
  have n3 : rM ≠ r7 := fun e => by subst e; simp [Mem.set_get, n1] at hoM
  have n4 : r4 ≠ rM := fun e => by subst e; simp [Mem.set_get] at ho4
  have n5 : r4 ≠ r3 := fun e => by subst e; simp [Mem.set_get, n2.symm] at ho4
  have n6 : r4 ≠ r7 := fun e => by subst e; simp [Mem.set_get, n1, n3.symm] at ho4
  have H0 : OrdInv r4 r3 [] h0 := by
    subst hh
    refine ⟨rM, r7, 0, [], ?_, ?_, ?_, MapOk.nil, fun n => rfl, ⟨[], ?_, Nat.le_refl _, Nat.zero_le _, by simp [ints], by simp, by simp [ints]⟩⟩
    · dsimp only; rw [Mem.set_at]; rfl
    · dsimp only; rw [Mem.set_ne n5.symm, Mem.set_ne n5.symm, Mem.set_ne n2.symm, Mem.set_at]; rfl
    · dsimp only; rw [Mem.set_ne n4.symm, Mem.set_ne n4.symm, Mem.set_at]
    · dsimp only; rw [Mem.set_ne n6.symm, Mem.set_ne n6.symm, Mem.set_ne n3.symm, Mem.set_ne n1, Mem.set_ne n1, Mem.set_at]; rfl
  have A0 : Apart μ h0 := by
    subst hh
    exact (((((((apart_nil μ).set hm7).set hm3).set hm3).set hmM).set hm4).set hm4)
  refine loop_intro (fun p : Nat × Mem => p.1 ≤ xs.length ∧ Apart μ p.2 ∧ OrdInv r4 r3 (ordAll [] ((xs.take p.1).flatMap T.vars)) p.2)
    (fun (i, h) => ⟨[(3, .val (.pointer (some ⟨r3, 0, none⟩))), (4, .val (.pointer (some ⟨r4, 0, none⟩))), (9, .val (.slice base xs.length cap)), (10, .val (.int .i64 xs.length)), (11, .val (.int .i64 i))], [], 0, μ, h⟩) (fun p => xs.length - p.1)
    (0, h0) ⟨by simp, A0, H0⟩ (fun (_, _) => ⟨rfl, rfl⟩) ⟨⟨rfl, rfl, rfl, rfl, rfl, trivial⟩, trivial, rfl, rfl⟩ ?_
  rintro ⟨i, h⟩ ⟨hi, hap, hJ⟩
  dsimp only at hi hap hJ
  refine ifd (fun hlt => ?_) (fun hlt => ?_)
  · obtain ⟨x, hx'⟩ := at_some (l := xs) (i := i) (by omega)
    obtain ⟨ad, p, hel, hto⟩ := Tm.elem (i := i) (t := x.tm) hsl (by simp [hx'])
    have hpre := flatMap_take_le T.vars xs i
    have hsz := T.vars_size x
    have hsz2 := hx x (mem_at hx')
    refine elem_intro hel ?_
    intro r
    refine call_own (eachVar_rel (OrdInv r4 r3) ord (fun s _ => s.length ≤ 1000000000000) (fun s h n hq hj => orderedVars1_spec n hq hj) x _ h hto (fun pre n post e => ?_) hJ) fun v μ' h' hle hap' hR => ?_
    · have h1 := ordAll_length pre (ordAll [] ((xs.take i).flatMap T.vars))
      have h2 := ordAll_length ((xs.take i).flatMap T.vars) []
      have h3 : pre.length ≤ x.vars.length := by rw [e]; simp
      show (ordAll _ pre).length ≤ _
      simp only [List.length_nil] at h2
      omega
    obtain ⟨rfl, e2, hj'⟩ := hR
    obtain rfl := e2.symm
    refine num64 (by omega) (by omega) ⟨(i + 1, h'), ⟨by dsimp only; omega, hap', ?_⟩, by dsimp only; omega, ⟨⟨rfl, rfl, rfl, rfl, rfl, trivial⟩, trivial, rfl, rfl⟩⟩
    dsimp only
    rw [flat_take hx', ordAll_append]
    exact hj'
  · obtain rfl : i = xs.length := by omega
    rw [List.take_length] at hJ
    obtain ⟨r, rr, cap', l, g1, g2, g3, gk, gg, gr⟩ := hJ
    refine own_intro [.slice (some ⟨rr, 0, none⟩) (ordAll [] (xs.flatMap T.vars)).length cap'] rfl (box_at g2) ?_
    refine ret_own h Mem.nil (Parts.nil_right h) ?_
    have := gr.rep (Mem.le_join_right hap) (Ints.rows (ordAll [] (xs.flatMap T.vars)))
    simpa [ints] using this
/-! ### The reference's -/
theorem l02Has_spec {l : List Int} {base : Option Addr} {cap : Nat} {n : Int} (hsl : Sl μ 1 base l.length (l.map D.i)) : Gives Try.prog 233 [.slice base l.length cap, .int .i64 n] μ (.bool (decide (n ∈ l))) := by
  have hn := maxLen_le hsl.max
  refine Spec.mk Try.func233 (by kernel_rfl) ?_
  refine loop_intro (fun i : Nat => i ≤ l.length ∧ n ∉ l.take i) (fun i => ⟨[(1, .val (.int .i64 n)), (7, .val (.slice base l.length cap)), (8, .val (.int .i64 l.length)), (9, .val (.int .i64 i))], [], 0, μ, Mem.nil⟩) (fun i => l.length - i)
    0 ⟨by omega, by simp⟩ (fun i => ⟨rfl, rfl⟩) ⟨⟨rfl, rfl, rfl, rfl, trivial⟩, trivial, rfl, rfl⟩ ?_
  rintro i ⟨hi, hno⟩
  refine ifd (fun h => ?_) (fun h => ?_)
  · obtain ⟨x, hx⟩ := at_some (l := l) (i := i) (by omega)
    obtain ⟨ad, hel⟩ := Ints.elem hsl hx
    refine elem_intro hel ?_
    refine ifd (fun h2 => ret_gives (isT (by rw [← h2]; exact mem_at hx)) rfl) (fun h2 => ?_)
    refine num64 (by omega) (by omega) ⟨i + 1, ⟨by omega, ?_⟩, by omega, ⟨⟨rfl, rfl, rfl, rfl, trivial⟩, trivial, rfl, rfl⟩⟩
    rw [List.take_add_one, hx, Option.toList_some, List.mem_append, List.mem_singleton]
    rintro (k | k)
    · exact hno k
    · exact h2 k.symm
  · obtain rfl : i = l.length := by omega
    rw [List.take_length] at hno
    exact ret_gives (isF hno) rfl
theorem l07Order_spec : ∀ (x : T) {h : Mem} {r cap : Nat} {acc : List Int} {w : Value}, RepV μ x.tm.d w → RowO h r cap 3 1 (ints acc) → acc.length + x.vars.length ≤ 1000000000000 →
    SpecH Try.prog 204 [w, .slice (some ⟨r, 0, none⟩) acc.length cap] μ h fun v μ' h' => μ' = μ ∧ ∃ r' cap', v = .slice (some ⟨r', 0, none⟩) (ordAll acc x.vars).length cap' ∧ RowO h' r' cap' 3 1 (ints (ordAll acc x.vars)) :=
  T.ind fun x ih h r cap acc w hw hr hb => by
    obtain ⟨base, cap2, rfl, hsl⟩ := T.inv hw
    have hn := T.args_le x
    refine SpecH.mkA [] Try.func204 (by kernel_rfl) (by kernel_rfl) fun hap => ?_
    intro r0
    have main : (x.tm.kind = 1 → x.tm.num ∈ acc) → x.vars.foldl ord acc = (x.args.flatMap T.vars).foldl ord acc := fun hk => by
      cases x with
      | var n =>
        have : n ∈ acc := hk rfl
        simp [T.vars, T.args, ord, this]
      | _ => simp [T.vars, T.args]
    by_cases hk : x.tm.kind = 1 ∧ x.tm.num ∉ acc
    · obtain ⟨hk1, hk2⟩ := hk
      have e : x.vars = [x.tm.num] := by cases x <;> simp_all [T.vars, T.tm, Tm.kind, Tm.num]
      refine ifd (fun _ => ?_) (fun h => absurd hk1 h)
      refine call_read hap (l02Has_spec (hr.ints (Mem.le_join_right hap))) ?_
      refine ifnd (fun _ => ?_) (fun h => absurd h hk2)
      intro r1
      refine app_intro (ints acc) (by simp [ints]) hr ?_ ?_ fun r' cap' o hrow hor => ?_
      · show (acc.length + 1) * 8 ≤ _; omega
      · exact Nat.le_trans (show acc.length + 1 ≤ 1000000000001 by omega) (by decide)
      have e2 : ordAll acc x.vars = acc ++ [x.tm.num] := by rw [e]; simp [ordAll, ord, hk2]
      rw [e2]
      refine ret_plain ⟨rfl, r', cap', by simp, ?_⟩
      have : ints (acc ++ [x.tm.num]) = ints acc ++ [.int .i64 x.tm.num] := by simp [ints]
      rw [this]; exact hrow
    · have hk' : x.tm.kind = 1 → x.tm.num ∈ acc := fun h => Classical.not_not.1 fun h2 => hk ⟨h, h2⟩
      have e2 : ordAll acc x.vars = ordAll acc (x.args.flatMap T.vars) := main hk'
      have hvl : (x.args.flatMap T.vars).length ≤ x.vars.length := by cases x <;> simp [T.vars, T.args]
      rw [e2]
      refine ifd (fun h1 => ?_) (fun h1 => ?_)
      · refine call_read hap (l02Has_spec (hr.ints (Mem.le_join_right hap))) ?_
        refine ifnd (fun h2 => absurd (hk' h1) h2) (fun _ => ?_)
        refine loop_intro (fun p : Nat × Nat × Nat × Mem => p.1 ≤ x.args.length ∧ Apart μ p.2.2.2 ∧ RowO p.2.2.2 p.2.1 p.2.2.1 3 1 (ints (ordAll acc ((x.args.take p.1).flatMap T.vars))))
          (fun (i, r, cap, h) => ⟨[(1, .val (.slice (some ⟨r, 0, none⟩) (ordAll acc ((x.args.take i).flatMap T.vars)).length cap)), (23, .val (.slice base x.args.length cap2)), (24, .val (.int .i64 x.args.length)), (25, .val (.int .i64 i))], [], 1, μ, h⟩) (fun p => x.args.length - p.1)
          (0, r, cap, h) ⟨by simp, hap, hr⟩ (fun (_, _, _, _) => ⟨rfl, rfl⟩) ⟨⟨rfl, rfl, rfl, rfl, trivial⟩, trivial, rfl, rfl⟩ ?_
        rintro ⟨i, r, cap, h⟩ ⟨hi, hap, hr⟩
        dsimp only at hi hap hr
        refine ifd (fun hlt => ?_) (fun hlt => ?_)
        · obtain ⟨t, ht⟩ := at_some (l := x.args) (i := i) (by omega)
          obtain ⟨ad, p, hel, hto⟩ := T.arg hsl ht
          have hl1 := ordAll_length ((x.args.take i).flatMap T.vars) acc
          have hl2 : ((x.args.take (i + 1)).flatMap T.vars).length ≤ (x.args.flatMap T.vars).length := flatMap_take_le _ _ _
          rw [flat_take ht, List.length_append] at hl2
          refine elem_intro hel ?_
          intro r2
          refine call_own (ih t (mem_at ht) hto hr (by omega)) fun v μ' h' hle hap' hR => ?_
          obtain ⟨e3, r', cap', rfl, hr'⟩ := hR
          obtain rfl := e3.symm
          refine num64 (by omega) (by omega) ⟨(i + 1, r', cap', h'), ⟨by dsimp only; omega, hap', ?_⟩, by dsimp only; omega, ⟨⟨?_, rfl, rfl, rfl, trivial⟩, trivial, rfl, rfl⟩⟩
          · dsimp only; rw [flat_take ht, ordAll_append]; exact hr'
          · rw [flat_take ht, ordAll_append]; rfl
        · obtain rfl : i = x.args.length := by omega
          rw [List.take_length] at *
          exact ret_plain ⟨rfl, r, cap, rfl, hr⟩
      · refine loop_intro (fun p : Nat × Nat × Nat × Mem => p.1 ≤ x.args.length ∧ Apart μ p.2.2.2 ∧ RowO p.2.2.2 p.2.1 p.2.2.1 3 1 (ints (ordAll acc ((x.args.take p.1).flatMap T.vars))))
          (fun (i, r, cap, h) => ⟨[(1, .val (.slice (some ⟨r, 0, none⟩) (ordAll acc ((x.args.take i).flatMap T.vars)).length cap)), (23, .val (.slice base x.args.length cap2)), (24, .val (.int .i64 x.args.length)), (25, .val (.int .i64 i))], [], 1, μ, h⟩) (fun p => x.args.length - p.1)
          (0, r, cap, h) ⟨by simp, hap, hr⟩ (fun (_, _, _, _) => ⟨rfl, rfl⟩) ⟨⟨rfl, rfl, rfl, rfl, trivial⟩, trivial, rfl, rfl⟩ ?_
        rintro ⟨i, r, cap, h⟩ ⟨hi, hap, hr⟩
        dsimp only at hi hap hr
        refine ifd (fun hlt => ?_) (fun hlt => ?_)
        · obtain ⟨t, ht⟩ := at_some (l := x.args) (i := i) (by omega)
          obtain ⟨ad, p, hel, hto⟩ := T.arg hsl ht
          have hl1 := ordAll_length ((x.args.take i).flatMap T.vars) acc
          have hl2 : ((x.args.take (i + 1)).flatMap T.vars).length ≤ (x.args.flatMap T.vars).length := flatMap_take_le _ _ _
          rw [flat_take ht, List.length_append] at hl2
          refine elem_intro hel ?_
          intro r2
          refine call_own (ih t (mem_at ht) hto hr (by omega)) fun v μ' h' hle hap' hR => ?_
          obtain ⟨e3, r', cap', rfl, hr'⟩ := hR
          obtain rfl := e3.symm
          refine num64 (by omega) (by omega) ⟨(i + 1, r', cap', h'), ⟨by dsimp only; omega, hap', ?_⟩, by dsimp only; omega, ⟨⟨?_, rfl, rfl, rfl, trivial⟩, trivial, rfl, rfl⟩⟩
          · dsimp only; rw [flat_take ht, ordAll_append]; exact hr'
          · rw [flat_take ht, ordAll_append]; rfl
        · obtain rfl : i = x.args.length := by omega
          rw [List.take_length] at *
          exact ret_plain ⟨rfl, r, cap, rfl, hr⟩
theorem spec_OrderedVars_spec {xs : List T} {base : Option Addr} {cap : Nat} (hsl : Sl μ 4 base xs.length ((xs.map T.tm).map Tm.d)) (hw : D.wds ((xs.map T.tm).map Tm.d)) (hx : ∀ x ∈ xs, x.ok) (hn : xs.length ≤ 10000000) :
    Spec Try.prog 160 [.slice base xs.length cap] μ fun v μ' => RepV μ' (.sl 1 ((ordAll [] (xs.flatMap T.vars)).map D.i)) v := by
  have htot := flat_vars_length fun x h => (hx x h).2
  refine Spec.mkO [9] Try.func160 (by kernel_rfl) ?_
  have hall := l02AllOk_spec (l := xs.map T.tm) (cap := cap) (by rw [List.length_map]; exact hsl) hw
  rw [List.length_map] at hall
  refine call_gives hall ?_
  refine ifnd (fun h => absurd (fun t ht => ?_) h) (fun _ => ?_)
  · obtain ⟨x, hx', rfl⟩ := List.mem_map.1 ht
    exact (hx x hx').tm
  intro r9 hm9 ho9
  have A0 : Apart μ (Mem.nil.set r9 (.cells (List.toArray (([] : List Value).flatMap vcells)) 3 (0, 0))) := (apart_nil μ).set hm9
  have R0 : RowO (Mem.nil.set r9 (.cells (List.toArray (([] : List Value).flatMap vcells)) 3 (0, 0))) r9 0 3 1 (ints []) := RowO.mk_nil _ _ _ _
  refine loop_intro (fun p : Nat × Nat × Nat × Mem => p.1 ≤ xs.length ∧ Apart μ p.2.2.2 ∧ RowO p.2.2.2 p.2.1 p.2.2.1 3 1 (ints (ordAll [] ((xs.take p.1).flatMap T.vars))))
    (fun (i, r, c, h) => ⟨[(3, .val (.slice (some ⟨r, 0, none⟩) (ordAll [] ((xs.take i).flatMap T.vars)).length c)), (10, .val (.slice base xs.length cap)), (11, .val (.int .i64 xs.length)), (12, .val (.int .i64 i))], [], 0, μ, h⟩) (fun p => xs.length - p.1)
    (0, r9, 0, _) ⟨by simp, A0, R0⟩ (fun (_, _, _, _) => ⟨rfl, rfl⟩) ⟨⟨rfl, rfl, rfl, rfl, trivial⟩, trivial, rfl, rfl⟩ ?_
  rintro ⟨i, r, c, h⟩ ⟨hi, hap, hr⟩
  dsimp only at hi hap hr
  refine ifd (fun hlt => ?_) (fun hlt => ?_)
  · obtain ⟨x, hx'⟩ := at_some (l := xs) (i := i) (by omega)
    obtain ⟨ad, p, hel, hto⟩ := Tm.elem (i := i) (t := x.tm) hsl (by simp [hx'])
    have hl1 := ordAll_length ((xs.take i).flatMap T.vars) []
    have hl2 := flatMap_take_le T.vars xs (i + 1)
    rw [flat_take hx', List.length_append] at hl2
    simp only [List.length_nil] at hl1
    refine elem_intro hel ?_
    intro r2
    refine call_own (l07Order_spec x hto hr (by omega)) fun v μ' h' hle hap' hR => ?_
    obtain ⟨e3, r', cap', rfl, hr'⟩ := hR
    obtain rfl := e3.symm
    refine num64 (by omega) (by omega) ⟨(i + 1, r', cap', h'), ⟨by dsimp only; omega, hap', ?_⟩, by dsimp only; omega, ⟨⟨?_, rfl, rfl, rfl, trivial⟩, trivial, rfl, rfl⟩⟩
    · dsimp only; rw [flat_take hx', ordAll_append]; exact hr'
    · rw [flat_take hx', ordAll_append]; rfl
  · obtain rfl : i = xs.length := by omega
    rw [List.take_length] at *
    refine ret_own h Mem.nil (Parts.nil_right h) ?_
    have := hr.rep (Mem.le_join_right hap) (Ints.rows (ordAll [] (xs.flatMap T.vars)))
    simpa [ints] using this
end
end Go.Vx

/- Contracts: bindings inserted; names by number; the reference's canonical terms. -/
namespace Go.Vx
open Go.Proofs Classical
section
variable {μ : Mem}
theorem Rep.val : ∀ {d : D} {c : List Value}, Rep μ d c → ∃ v, RepV μ d v ∧ vcells v = c
  | .st fs, c, h => ⟨.agg c.toArray, ⟨c, rfl, h⟩, by simp [vcells]⟩
  | .i n, c, h => by
    have h2 : c = [.int .i64 n] := h
    subst h2; exact ⟨_, h, rfl⟩
  | .b x, c, h => by
    have h2 : c = [.bool x] := h
    subst h2; exact ⟨_, h, rfl⟩
  | .s x, c, h => by
    have h2 : c = [.string x] := h
    subst h2; exact ⟨_, h, rfl⟩
  | .sl es xs, c, h => by
    obtain ⟨base, cap, h1, h2⟩ := h
    subst h1
    exact ⟨_, ⟨base, cap, rfl, h2⟩, rfl⟩
theorem RepS.rows {es : Nat} : ∀ {l : List D} {flat : List Value}, RepS μ l flat → (∀ x ∈ l, x.n = es) → ∃ vs, Rows μ es l vs ∧ vs.flatMap vcells = flat
  | [], flat, h, _ => by
    have h : flat = [] := h
    subst h; exact ⟨[], .nil, rfl⟩
  | d :: l, flat, h, hn => by
    obtain ⟨c1, c2, rfl, h1, h2⟩ := h
    obtain ⟨v, hv, rfl⟩ := Rep.val h1
    obtain ⟨vs, hr, rfl⟩ := RepS.rows h2 fun x hx => hn x (by simp [hx])
    exact ⟨v :: vs, .cons hv (hn d (by simp)) hr, by simp⟩
theorem Rows.take {es : Nat} : ∀ {ds : List D} {vs : List Value} (k : Nat), Rows μ es ds vs → Rows μ es (ds.take k) (vs.take k)
  | _, _, 0, _ => by simpa using Rows.nil
  | _, _, k + 1, .nil => by simpa using Rows.nil
  | _, _, k + 1, .cons h hn r => by simpa using Rows.cons h hn (r.take k)
theorem Rows.drop {es : Nat} : ∀ {ds : List D} {vs : List Value} (k : Nat), Rows μ es ds vs → Rows μ es (ds.drop k) (vs.drop k)
  | _, _, 0, h => by simpa using h
  | _, _, k + 1, .nil => by simpa using Rows.nil
  | _, _, k + 1, .cons h hn r => by simpa using r.drop k
theorem Rows.size {es : Nat} : ∀ {ds : List D} {vs : List Value}, Rows μ es ds vs → ∀ v ∈ vs, (vcells v).length = es ∧ ∀ u ∈ vcells v, u.oneCell' = true
  | _, _, .nil, v, hv => by simp at hv
  | _, _, .cons h hn r, v, hv => by
    rcases List.mem_cons.1 hv with rfl | hv
    · exact ⟨by rw [Rep.len _ _ h.cells]; exact hn, Rep.one _ _ h.cells⟩
    · exact r.size v hv
/-- A slice's elements as a row that an append may read. -/
theorem Rep.src {es n cap : Nat} {base : Option Addr} {ds : List D} (h : RepV μ (.sl es ds) (.slice base n cap)) :
    ∃ vs, Rows μ es ds vs ∧ vs.length = n ∧ n ≤ cap ∧ ∀ a b, a ≤ b → b ≤ n → SrcAt μ (if cap = a then base else base.map (·.add (a * es))) (b - a) es ((vs.drop a).take (b - a)) := by
  have h' : Rep μ (.sl es ds) [.slice base n cap] := h
  have hcap := Rep.lens h'
  obtain ⟨b0, c0, h1, h2, h3, h4⟩ := h'
  simp only [List.cons.injEq, and_true] at h1
  obtain ⟨rfl, rfl, rfl⟩ := Value.slice.inj h1
  have : ∃ vs, Rows μ es ds vs ∧ (ds = [] ∨ ∃ a0, base = some a0 ∧ CellsAt μ a0 (vs.flatMap vcells)) := by
    rcases h4 with rfl | ⟨a0, flat, g1, g2, g3⟩
    · exact ⟨[], .nil, .inl rfl⟩
    · obtain ⟨vs, hr, rfl⟩ := RepS.rows g3 h3
      exact ⟨vs, hr, .inr ⟨a0, g1, g2⟩⟩
  obtain ⟨vs, hr, hc⟩ := this
  have hlen := hr.len
  refine ⟨vs, hr, hlen.symm, hcap, fun a b hab hb => ⟨by simp; omega, fun y hy => hr.size y (List.mem_of_mem_drop (List.mem_of_mem_take hy)), ?_⟩⟩
  rcases Nat.eq_or_lt_of_le hab with e | hlt
  · exact .inl (by omega)
  · right
    rcases hc with e | ⟨a0, e, hcell⟩
    · subst e; simp at hb; omega
    · subst e
      refine ⟨a0.add (a * es), by rw [if_neg (by omega)]; rfl, fun j v hj => ?_⟩
      rw [add_add]
      refine hcell _ _ ?_
      have e1 : vs.flatMap vcells = (vs.take a).flatMap vcells ++ (((vs.drop a).take (b - a)).flatMap vcells ++ ((vs.drop a).drop (b - a)).flatMap vcells) := by
        rw [← List.flatMap_append, List.take_append_drop, ← List.flatMap_append, List.take_append_drop]
      have e2 : ((vs.take a).flatMap vcells).length = a * es := by
        rw [flat_len (es := es) (vs.take a) fun y hy => (hr.size y (List.mem_of_mem_take hy)).1]
        congr 1; simp; omega
      rw [e1, List.getElem?_append_right (by omega), e2, Nat.add_sub_cancel_left, List.getElem?_append_left (List.getElem?_eq_some_iff.1 hj).1]
      exact hj
/-! ### Insertion -/
def insAt {α : Type} (l : List α) (x : α) (k : Nat) : List α := l.take k ++ ([x] ++ l.drop k)
theorem insAt_mem {α : Type} (l : List α) (x y : α) (k : Nat) : y ∈ insAt l x k ↔ y = x ∨ y ∈ l := by
  have h2 : y ∈ l ↔ y ∈ l.take k ∨ y ∈ l.drop k := by rw [← List.mem_append, List.take_append_drop]
  simp only [insAt, List.mem_append, List.mem_singleton, h2]
  constructor
  · rintro (h | h | h) <;> simp [h]
  · rintro (h | h | h) <;> simp [h]
theorem insAt_length {α : Type} (l : List α) (x : α) (k : Nat) : (insAt l x k).length = l.length + 1 := by
  have := congrArg List.length (List.take_append_drop k l)
  simp only [insAt, List.length_append, List.length_singleton] at *
  omega
theorem insAt_map {α β : Type} (f : α → β) (l : List α) (x : α) (k : Nat) : (insAt l x k).map f = insAt (l.map f) (f x) k := by
  simp [insAt]
/-- Where an insertion goes, seen from the right. -/
def InsPos (bs : List B) (n : Int) (k : Nat) : Prop := k ≤ bs.length ∧ (∀ c, bs[k - 1]? = some c → 0 < k → c.var ≤ n) ∧ ∀ j c, k ≤ j → bs[j]? = some c → n < c.var
theorem sub_append (a c : List B) (n : Int) : sub (a ++ c) n = (sub a n).or (sub c n) := by
  induction a with
  | nil => simp [sub]
  | cons b a ih =>
    simp only [List.cons_append, sub]
    split
    · simp
    · exact ih
theorem sub_insAt {bs : List B} {b : B} (h : ∀ c ∈ bs, c.var ≠ b.var) (k : Nat) (n : Int) : sub (insAt bs b k) n = if b.var = n then some b.to else sub bs n := by
  have e := List.take_append_drop k bs
  have e2 : sub bs n = (sub (bs.take k) n).or (sub (bs.drop k) n) := by rw [← sub_append, e]
  rw [insAt, sub_append, sub_append, e2]
  by_cases hn : b.var = n
  · have h1 : sub (bs.take k) n = none := sub_none fun c hc => by rw [← hn]; exact h c (List.mem_of_mem_take hc)
    rw [if_pos hn, h1]
    simp [sub, hn]
  · rw [if_neg hn]
    simp [sub, hn]
theorem sub_mem {bs : List B} {b : B} (h : b ∈ bs) : sub bs b.var ≠ none := by
  induction bs with
  | nil => simp at h
  | cons c bs ih =>
    rw [sub]
    split
    · simp
    · rename_i hne
      rcases List.mem_cons.1 h with e | h
      · subst e; exact absurd rfl hne
      · exact ih h
theorem l04Insert_spec {bs : List B} {b : B} {v vb : Value} (hv : RepV μ (.sl 5 ((bs.map B.bd).map Bd.d)) v) (hb : RepV μ b.bd.d vb) (hn : bs.length ≤ 1000000000) :
    Spec Try.prog 119 [v, vb] μ fun v μ' => ∃ k, InsPos bs b.var k ∧ RepV μ' (.sl 5 (((insAt bs b k).map B.bd).map Bd.d)) v := by
  obtain ⟨base, cap, rfl, hsl⟩ := Rep.sl hv
  rw [List.length_map, List.length_map] at hsl hv ⊢
  obtain ⟨p, rfl⟩ := Bd.invV hb
  obtain ⟨vs, hrows, hvl, hcap, hsrc⟩ := Rep.src hv
  refine Spec.mk Try.func119 (by kernel_rfl) ?_
  intro r
  refine loop_intro (fun k : Nat => k ≤ bs.length ∧ ∀ (j : Nat) c, k ≤ j → bs[j]? = some c → b.var < c.var) (fun k => ⟨[(0, .val (.slice base bs.length cap)), (3, .loc 0 r 0), (5, .val (.int .i64 k))], [(0, some (.cells r [.val (.int .i64 b.bd.var), .val (.int .i64 b.bd.to.kind), .val (.int .i64 b.bd.to.num), .val (.string b.bd.to.name), .val (.slice p.1 b.bd.to.args.length p.2)] 114))], 1, μ, Mem.nil⟩) (fun k => k)
    bs.length ⟨Nat.le_refl _, fun j c hj hc => absurd (List.getElem?_eq_some_iff.1 hc).1 (by omega)⟩ (fun i => ⟨rfl, rfl⟩) ⟨⟨rfl, rfl, rfl, trivial⟩, ⟨rfl, trivial⟩, rfl, rfl⟩ ?_
  rintro k ⟨hk, hgt⟩
  refine ifd (fun h1 => ?_) (fun h1 => ?_)
  · obtain ⟨c, hc⟩ := at_some (l := bs) (i := k - 1) (by omega)
    obtain ⟨ad, q, hel, _⟩ := B.elem hsl hc
    refine num_eq (x := ((k - 1 : Nat) : Int)) (by rw [wrap64 (by omega) (by omega)]; omega) ?_
    refine elem_intro hel ?_
    refine ifd (fun h2 => ?_) (fun h2 => ?_)
    · refine num_eq (x := ((k - 1 : Nat) : Int)) (by rw [wrap64 (by omega) (by omega)]; omega) ⟨k - 1, ⟨by omega, fun j c' hj hc' => ?_⟩, by omega, ⟨⟨rfl, rfl, rfl, trivial⟩, ⟨rfl, trivial⟩, rfl, rfl⟩⟩
      rcases Nat.lt_or_ge j k with h3 | h3
      · obtain rfl : j = k - 1 := by omega
        rw [hc] at hc'; cases hc'; exact h2
      · exact hgt j c' h3 hc'
    · have hpos : InsPos bs b.var k := ⟨hk, fun c' hc' _ => by rw [hc] at hc'; cases hc'; exact Int.not_lt.1 h2, hgt⟩
      intro r0
      refine cut_intro 0 k rfl rfl (by omega) (by omega) ?_
      refine src_intro _ (hsrc 0 k (by omega) hk) ?_
      refine grow_intro ?_ ?_ fun b1 c1 _ => ?_
      · show (0 + _) * 64 ≤ _; simp; omega
      · exact Nat.le_trans (m := 2000000000) (by simp; omega) (by decide)
      intro r1
      refine grow_intro ?_ ?_ fun b2 c2 _ => ?_
      · show (_ + 1) * 64 ≤ _; simp; omega
      · exact Nat.le_trans (m := 2000000000) (by simp; omega) (by decide)
      refine cut_intro k bs.length rfl rfl hk (by omega) ?_
      refine src_intro _ (hsrc k bs.length hk (Nat.le_refl _)) ?_
      refine grow_intro ?_ ?_ fun b3 c3 _ => ?_
      · show (_ + _) * 64 ≤ _; simp; omega
      · exact Nat.le_trans (m := 3000000000) (by simp; omega) (by decide)
      refine ret_frz [1] fun μ' hle hno hrow => .inl ⟨k, hpos, ?_⟩
      have hr2 := ((hrows.take k).append ((Rows.one hb (Bd.d_n _)).append (hrows.drop k))).mono hle
      have e : (([] : List Value) ++ (vs.drop 0).take (k - 0) ++ [.agg #[.int .i64 b.bd.var, .int .i64 b.bd.to.kind, .int .i64 b.bd.to.num, .string b.bd.to.name, .slice p.1 b.bd.to.args.length p.2]] ++ (vs.drop k).take (bs.length - k)) = vs.take k ++ ([.agg #[.int .i64 b.bd.var, .int .i64 b.bd.to.kind, .int .i64 b.bd.to.num, .string b.bd.to.name, .slice p.1 b.bd.to.args.length p.2]] ++ vs.drop k) := by
        simp
        rw [List.take_of_length_le (by simp; omega)]
      rw [e] at hrow ⊢
      have e2 : ((insAt bs b k).map B.bd).map Bd.d = ((bs.map B.bd).map Bd.d).take k ++ ([b.bd.d] ++ ((bs.map B.bd).map Bd.d).drop k) := by simp [insAt]
      rw [e2]
      exact Rows.sl hrow hr2 (Nat.le_trans (m := 3000000000) (by simp; omega) (by decide))
  · have hpos : InsPos bs b.var k := ⟨hk, fun c' hc' h => by omega, hgt⟩
    intro r0
    refine cut_intro 0 k rfl rfl (by omega) (by omega) ?_
    refine src_intro _ (hsrc 0 k (by omega) hk) ?_
    refine grow_intro ?_ ?_ fun b1 c1 _ => ?_
    · show (0 + _) * 64 ≤ _; simp; omega
    · exact Nat.le_trans (m := 2000000000) (by simp; omega) (by decide)
    intro r1
    refine grow_intro ?_ ?_ fun b2 c2 _ => ?_
    · show (_ + 1) * 64 ≤ _; simp; omega
    · exact Nat.le_trans (m := 2000000000) (by simp; omega) (by decide)
    refine cut_intro k bs.length rfl rfl hk (by omega) ?_
    refine src_intro _ (hsrc k bs.length hk (Nat.le_refl _)) ?_
    refine grow_intro ?_ ?_ fun b3 c3 _ => ?_
    · show (_ + _) * 64 ≤ _; simp; omega
    · exact Nat.le_trans (m := 3000000000) (by simp; omega) (by decide)
    refine ret_frz [1] fun μ' hle hno hrow => .inl ⟨k, hpos, ?_⟩
    have hr2 := ((hrows.take k).append ((Rows.one hb (Bd.d_n _)).append (hrows.drop k))).mono hle
    have e : (([] : List Value) ++ (vs.drop 0).take (k - 0) ++ [.agg #[.int .i64 b.bd.var, .int .i64 b.bd.to.kind, .int .i64 b.bd.to.num, .string b.bd.to.name, .slice p.1 b.bd.to.args.length p.2]] ++ (vs.drop k).take (bs.length - k)) = vs.take k ++ ([.agg #[.int .i64 b.bd.var, .int .i64 b.bd.to.kind, .int .i64 b.bd.to.num, .string b.bd.to.name, .slice p.1 b.bd.to.args.length p.2]] ++ vs.drop k) := by
      simp
      rw [List.take_of_length_le (by simp; omega)]
    rw [e] at hrow ⊢
    have e2 : ((insAt bs b k).map B.bd).map Bd.d = ((bs.map B.bd).map Bd.d).take k ++ ([b.bd.d] ++ ((bs.map B.bd).map Bd.d).drop k) := by simp [insAt]
    rw [e2]
    exact Rows.sl hrow hr2 (Nat.le_trans (m := 3000000000) (by simp; omega) (by decide))
/-! ### Names by number -/
noncomputable def canonF (vs : List Int) (n : Int) : Option T := if n ∈ vs then some (.var (vs.idxOf n)) else none
theorem idx_at : ∀ {l : List Int} (_ : l.Nodup) {i : Nat} {n : Int}, l[i]? = some n → l.idxOf n = i
  | [], _, i, n, h => by simp at h
  | a :: l, hn, 0, n, h => by
    simp only [List.getElem?_cons_zero, Option.some.injEq] at h
    subst h; simp
  | a :: l, hn, i + 1, n, h => by
    simp only [List.getElem?_cons_succ] at h
    simp only [List.nodup_cons] at hn
    have hne : ¬ a = n := fun e => hn.1 (by subst e; exact List.mem_of_getElem? h)
    have hb : (a == n) = false := by simp [hne]
    rw [List.idxOf_cons, hb, idx_at hn.2 h]
    rfl
theorem l07Names_spec {l : List Int} {v : Value} (hv : RepV μ (.sl 1 (l.map D.i)) v) (hnd : l.Nodup) (hn : l.length ≤ 100000000) :
    Spec Try.prog 159 [v] μ fun v μ' => ∃ bs : List B, RepV μ' (.sl 5 ((bs.map B.bd).map Bd.d)) v ∧ ∀ n, sub bs n = canonF l n := by
  obtain ⟨base, cap, rfl, hsl⟩ := Rep.sl hv
  rw [List.length_map] at hsl ⊢
  refine Spec.mkO [6] Try.func159 (by kernel_rfl) ?_
  intro r6 hm6 ho6
  have start : RepV μ (.sl 5 ((([] : List B).map B.bd).map Bd.d)) (.slice (some ⟨r6, 0, none⟩) 0 0) := ⟨_, _, rfl, ⟨Nat.le_refl _, Nat.zero_le _⟩, by simp, .inl rfl⟩
  refine loop_intro (fun p : Nat × List B × Value × Mem => p.1 ≤ l.length ∧ μ.Le p.2.2.2 ∧ p.2.1.length = p.1 ∧ RepV p.2.2.2 (.sl 5 ((p.2.1.map B.bd).map Bd.d)) p.2.2.1 ∧ ∀ n, sub p.2.1 n = if n ∈ l.take p.1 then some (.var (l.idxOf n)) else none)
    (fun (i, _, v, μ') => ⟨[(3, .val v), (7, .val (.slice base l.length cap)), (8, .val (.int .i64 l.length)), (9, .val (.int .i64 i))], [], 0, μ', Mem.nil.set r6 (.cells (List.toArray (([] : List Value).flatMap vcells)) 114 (0, 0))⟩) (fun p => l.length - p.1)
    (0, [], .slice (some ⟨r6, 0, none⟩) 0 0, μ) ⟨by simp, Mem.Le.refl μ, rfl, start, fun n => by simp [sub]⟩ (fun (_, _, _, _) => ⟨rfl, rfl⟩) ⟨⟨rfl, rfl, rfl, rfl, trivial⟩, trivial, rfl, rfl⟩ ?_
  rintro ⟨i, bs, v, μ'⟩ ⟨hi, hle, hbl, hrep, hsub⟩
  dsimp only at hi hle hbl hrep hsub
  refine ifd (fun h => ?_) (fun h => ?_)
  · obtain ⟨n, hn'⟩ := at_some (l := l) (i := i) (by omega)
    obtain ⟨ad, hel⟩ := Ints.elem (hsl.mono hle) hn'
    have hidx := idx_at hnd hn'
    refine elem_intro hel ?_
    refine call_gives (l02Var_spec _) ?_
    have hb : RepV μ' (B.mk n (.var i)).bd.d (.agg #[.int .i64 n, .int .i64 1, .int .i64 i, .string ⟨#[]⟩, .slice none 0 0]) := by
      obtain ⟨cs, e, h2⟩ : ∃ cs, varV (i : Int) = .agg (List.toArray cs) ∧ Rep μ' (T.var (i : Int)).tm.d cs := ⟨_, rfl, varV_rep (μ := μ') (i : Int) |>.cells⟩
      have e2 : cs = [.int .i64 1, .int .i64 i, .string ⟨#[]⟩, .slice none 0 0] := by
        have := congrArg vcells e
        simpa [vcells, varV] using this.symm
      subst e2
      exact ⟨_, rfl, [.int .i64 n], _, rfl, rfl, _, [], rfl, h2, rfl⟩
    have hfresh : ∀ c ∈ bs, c.var ≠ n := fun c hc e => by
      have h1 := sub_mem hc
      rw [hsub, e] at h1
      by_cases h2 : n ∈ l.take i
      · obtain ⟨j, hj⟩ := List.mem_iff_getElem?.1 h2
        rw [List.getElem?_take] at hj
        split at hj
        · rename_i hji
          have := idx_at hnd hj
          omega
        · cases hj
      · rw [if_neg h2] at h1; exact h1 rfl
    refine call_plain (l04Insert_spec hrep hb (by omega)) fun v2 μ2 hle2 hR => ?_
    obtain ⟨k, _, hrep2⟩ := hR
    refine num64 (by omega) (by omega) ⟨(i + 1, insAt bs ⟨n, .var i⟩ k, v2, μ2), ⟨by dsimp only; omega, hle.trans hle2, by dsimp only; rw [insAt_length, hbl], hrep2, fun m => ?_⟩, by dsimp only; omega, ⟨⟨rfl, rfl, rfl, rfl, trivial⟩, trivial, rfl, rfl⟩⟩
    dsimp only
    rw [sub_insAt hfresh, List.take_add_one, hn', Option.toList_some]
    by_cases e : n = m
    · subst e; rw [if_pos rfl, if_pos (by simp), hidx]
    · rw [if_neg e, hsub]
      by_cases h2 : m ∈ l.take i
      · rw [if_pos h2, if_pos (by simp [h2])]
      · rw [if_neg h2, if_neg (by simp [h2]; exact fun e' => e e'.symm)]
  · obtain rfl : i = l.length := by omega
    rw [List.take_length] at hsub
    exact ret_plain ⟨bs, hrep, hsub⟩
/-- Numbers of variables lie in a range. -/
theorem T.vars_range : ∀ {x : T}, x.good → ∀ n ∈ x.vars, 0 ≤ n ∧ n ≤ 100000
  | .var n, h, m, hm => by
    simp only [T.vars, List.mem_singleton] at hm
    subst hm; exact h
  | .pair a b, h, m, hm => by
    simp only [T.vars, List.mem_append] at hm
    exact hm.elim (T.vars_range h.1 m) (T.vars_range h.2 m)
  | .nil, _, m, hm => by simp [T.vars] at hm
  | .sym _, _, m, hm => by simp [T.vars] at hm
  | .num _, _, m, hm => by simp [T.vars] at hm
theorem nodup_range {N : Nat} : ∀ {l : List Int}, l.Nodup → (∀ n ∈ l, 0 ≤ n ∧ n < N) → l.length ≤ N := by
  induction N with
  | zero =>
    intro l _ h
    cases l with
    | nil => simp
    | cons a l => have := h a (by simp); omega
  | succ N ih =>
    intro l hn h
    have h1 := ih (l := l.erase (N : Int)) (hn.erase _) fun n hm => by
      rw [hn.mem_erase_iff] at hm
      have := h n hm.2
      have h2 : n ≠ (N : Int) := hm.1
      omega
    have h2 : l.length ≤ (l.erase (N : Int)).length + 1 := by
      rw [List.length_erase]; split <;> omega
    omega
theorem ordAll_range {xs : List T} (hx : ∀ x ∈ xs, x.ok) : (ordAll [] (xs.flatMap T.vars)).length ≤ 100001 := by
  refine nodup_range (ordAll_nodup _ (by simp)) fun n hn => ?_
  rw [ordAll_mem] at hn
  rcases hn with hn | hn
  · obtain ⟨x, hx', hm⟩ := List.mem_flatMap.1 hn
    have := T.vars_range (hx x hx').1 n hm
    omega
  · simp at hn
/-! ### Canonical terms -/
theorem T.subst_congr {f g : Int → Option T} : ∀ (x : T), (∀ n ∈ x.vars, f n = g n) → x.subst f = x.subst g
  | .var n, h => by simp only [T.subst]; rw [h n (by simp [T.vars])]
  | .pair a b, h => by
    simp only [T.subst]
    rw [T.subst_congr a fun n hn => h n (by simp [T.vars, hn]), T.subst_congr b fun n hn => h n (by simp [T.vars, hn])]
  | .nil, _ => rfl
  | .sym _, _ => rfl
  | .num _, _ => rfl
theorem T.subst_vars_size {f : Int → Option T} (hf : ∀ n y, f n = some y → y.size = 1) : ∀ (x : T), (x.subst f).size = x.size
  | .var n => by
    simp only [T.subst]
    cases h : f n with
    | none => rfl
    | some y => simpa [T.size] using hf n y h
  | .pair a b => by simp only [T.subst, T.size, T.subst_vars_size hf a, T.subst_vars_size hf b]
  | .nil => rfl
  | .sym _ => rfl
  | .num _ => rfl
noncomputable def canon (xs : List T) : List T := xs.map (·.subst (canonF (ordAll [] (xs.flatMap T.vars))))
theorem canonF_size (vs : List Int) (n : Int) (y : T) (h : canonF vs n = some y) : y.size = 1 := by
  unfold canonF at h
  split at h
  · cases h; rfl
  · cases h
theorem spec_Canonical_spec {xs : List T} {base : Option Addr} {cap : Nat} (hsl : Sl μ 4 base xs.length ((xs.map T.tm).map Tm.d)) (hw : D.wds ((xs.map T.tm).map Tm.d)) (hx : ∀ x ∈ xs, x.ok) (hn : xs.length ≤ 10000000) :
    Spec Try.prog 88 [.slice base xs.length cap] μ fun v μ' => RepV μ' (.sl 4 (((canon xs).map T.tm).map Tm.d)) v := by
  refine Spec.mk Try.func88 (by kernel_rfl) ?_
  have hall := l02AllOk_spec (l := xs.map T.tm) (cap := cap) (by rw [List.length_map]; exact hsl) hw
  rw [List.length_map] at hall
  refine call_gives hall ?_
  refine ifnd (fun h => absurd (fun t ht => ?_) h) (fun _ => ?_)
  · obtain ⟨x, hx', rfl⟩ := List.mem_map.1 ht
    exact (hx x hx').tm
  refine call_plain (spec_OrderedVars_spec hsl hw hx hn) fun v1 μ1 hle1 hR1 => ?_
  have hnd : (ordAll [] (xs.flatMap T.vars)).Nodup := ordAll_nodup _ (by simp)
  have hrange : (ordAll [] (xs.flatMap T.vars)).length ≤ 100001 := ordAll_range hx
  refine call_plain (l07Names_spec hR1 hnd (by omega)) fun v2 μ2 hle2 hR2 => ?_
  obtain ⟨bs, hbs, hsub⟩ := hR2
  obtain ⟨nb, nc, rfl, hns⟩ := Rep.sl hbs
  rw [List.length_map, List.length_map] at hns ⊢
  have hfun : sub bs = canonF (ordAll [] (xs.flatMap T.vars)) := funext hsub
  have hsl2 := (hsl.mono hle1).mono hle2
  intro r13
  refine loop_intro (fun p : Nat × Option Nat × Nat × List Value × Mem => p.1 ≤ xs.length ∧ μ2.Le p.2.2.2.2 ∧ Rows p.2.2.2.2 4 ((((xs.take p.1).map (·.subst (sub bs))).map T.tm).map Tm.d) p.2.2.2.1)
    (fun (i, b, c, ys, μ') => ⟨[(3, .val (.slice nb bs.length nc)), (4, .row 0 b ys.length c), (14, .val (.slice base xs.length cap)), (15, .val (.int .i64 xs.length)), (16, .val (.int .i64 i))], [(0, some (.row b c 30 4 ys))], 1, μ', Mem.nil⟩) (fun p => xs.length - p.1)
    (0, some r13, 0, [], μ2) ⟨by simp, Mem.Le.refl _, .nil⟩ (fun (_, _, _, _, _) => ⟨rfl, rfl⟩) ⟨⟨rfl, rfl, rfl, rfl, rfl, trivial⟩, ⟨rfl, trivial⟩, rfl, rfl⟩ ?_
  rintro ⟨i, b, c, ys, μ'⟩ ⟨hi, hle, hrows⟩
  dsimp only at hi hle hrows
  have hlen := hrows.len
  simp only [List.length_map, List.length_take] at hlen
  refine ifd (fun h => ?_) (fun h => ?_)
  · obtain ⟨x, hx'⟩ := at_some (l := xs) (i := i) (by omega)
    obtain ⟨ad, p, hel, hto⟩ := Tm.elem (i := i) (t := x.tm) (hsl2.mono hle) (by simp [hx'])
    refine elem_intro hel ?_
    intro r
    refine call_plain (l04Put_spec x (hns.mono hle) hto) fun v3 μ3 hle3 hR3 => ?_
    refine call_plain (l02Copy_spec _ hR3) fun v4 μ4 hle4 hR4 => ?_
    obtain ⟨q, rfl⟩ := Tm.invV hR4
    intro r5
    refine grow_intro ?_ ?_ fun b' c' _ => ?_
    · show (ys.length + 1) * 56 ≤ _; omega
    · exact Nat.le_trans (m := 100000000) (show ys.length + 1 ≤ _ by omega) (by decide)
    refine num64 (by omega) (by omega) ⟨(i + 1, b', c', _, μ4), ⟨by dsimp only; omega, (hle.trans hle3).trans hle4, ?_⟩, by dsimp only; omega, ⟨⟨rfl, rfl, rfl, rfl, rfl, trivial⟩, ⟨rfl, trivial⟩, rfl, rfl⟩⟩
    dsimp only
    rw [List.take_add_one, hx', Option.toList_some]
    simp only [List.map_append, List.map_cons, List.map_nil]
    exact ((hrows.mono hle3).mono hle4).append (Rows.one hR4 (Tm.d_n _))
  · obtain rfl : i = xs.length := by omega
    rw [List.take_length] at hrows
    refine ret_frz [0] fun μ' hle' hno hrow => .inl ?_
    rw [canon, ← hfun]
    exact Rows.sl hrow (hrows.mono hle') (Nat.le_trans (m := 100000000) (by omega) (by decide))
end
end Go.Vx

/- Contracts: the program's canonical terms. -/
namespace Go.Vx
open Go.Proofs Classical
section
variable {μ : Mem}
theorem look_mem {μ h : Mem} {r : Nat} {ok : Value → Prop} {key : Value} {K : Option Value → Prop} (l : List (Value × Value)) (o : Option Value) (hm : μ r = some (mapO l)) (hk : MapOk ok l) (hok : ok key) (e : mget l key = o) (k : K o) : lookVC μ h r ok key K := ⟨⟨hok, l, .inl hm, hk, by rw [e]; exact k⟩⟩
/-- The map of names: what it holds for the first i variables. -/
def NameInv (rm : Nat) (vs : List Int) (i : Nat) (h : Mem) : Prop := ∃ r l, h rm = some (.cells #[.map (some r)] 180 (0, 0)) ∧ h r = some (mapO l) ∧ MapOk IntKey l ∧ ∀ n, mget l (.int .i64 n) = if n ∈ vs.take i then some (.int .i64 (vs.idxOf n)) else none
theorem Canonical1_looks {rm : Nat} {vs : List Int} {h : Mem} (H : NameInv rm vs vs.length h) (hl : h.Le μ) :
    Looks 163 [.pointer (some ⟨rm, 0, none⟩)] μ fun n => some (.var (if n ∈ vs then vs.idxOf n else 0)) := fun μ' hle n => by
  obtain ⟨r, l, h1, h2, hk, hg⟩ := H
  rw [List.take_length] at hg
  have g1 : μ' rm = _ := hle _ _ (hl _ _ h1)
  have g2 : μ' r = _ := hle _ _ (hl _ _ h2)
  refine Spec.mk Try.func163 (by kernel_rfl) ?_
  intro r0
  refine ext_intro [.map (some r)] rfl (box_at g1) ?_
  by_cases hn : n ∈ vs
  · refine look_mem l (some (.int .i64 (vs.idxOf n))) g2 (hk.weaken (by rintro _ ⟨n, rfl⟩; rfl)) rfl (by rw [hg, if_pos hn]) ?_
    refine call_gives (variable_spec _) ?_
    refine ret_plain ⟨_, rfl, ?_⟩
    rw [if_pos hn]
    exact varV_rep _
  · refine look_mem l none g2 (hk.weaken (by rintro _ ⟨n, rfl⟩; rfl)) rfl (by rw [hg, if_neg hn]) ?_
    refine call_gives (variable_spec _) ?_
    refine ret_plain ⟨_, rfl, ?_⟩
    rw [if_neg hn]
    exact varV_rep _
theorem impl_Canonical_spec {xs : List T} {base : Option Addr} {cap : Nat} (hsl : Sl μ 4 base xs.length ((xs.map T.tm).map Tm.d)) (hx : ∀ x ∈ xs, x.ok) (hn : xs.length ≤ 10000000) :
    Spec Try.prog 90 [.slice base xs.length cap] μ fun v μ' => Fresh μ μ' (.sl 4 (((canon xs).map T.tm).map Tm.d)) v := by
  refine Spec.mkO [3] Try.func90 (by kernel_rfl) ?_
  have hall := termsOk_spec (l := xs.map T.tm) (cap := cap) (by rw [List.length_map]; exact hsl)
  rw [List.length_map] at hall
  refine call_gives hall ?_
  refine ifnd (fun h => absurd (fun t ht => ?_) h) (fun _ => ?_)
  · obtain ⟨x, hx', rfl⟩ := List.mem_map.1 ht
    exact (hx x hx').tm
  intro rM hmM hoM r3 hm3 ho3
  refine sto_intro [.map none] 180 (Mem.set_at _ _ _) rfl (Nat.le_refl _) ?_
  dsimp only at hmM hoM hm3 ho3
  have n1 : rM ≠ r3 := fun e => by subst e; simp [Mem.set_get] at ho3
  generalize hh : Mem.set (Mem.set _ r3 _) r3 _ = h0
  have A0 : Apart μ h0 := by subst hh; exact ((((apart_nil μ).set hmM).set hm3).set hm3)
  have vs0 := ordAll [] (xs.flatMap T.vars)
  generalize hvs : ordAll [] (xs.flatMap T.vars) = vs
  have hnd : vs.Nodup := by rw [← hvs]; exact ordAll_nodup _ (by simp)
  have hrange : vs.length ≤ 100001 := by rw [← hvs]; exact ordAll_range hx
  have hcov : ∀ x ∈ xs, ∀ n ∈ x.vars, n ∈ vs := fun x hx' n hnv => by
    rw [← hvs, ordAll_mem]; exact .inl (List.mem_flatMap.2 ⟨x, hx', hnv⟩)
  have H0 : NameInv r3 vs 0 h0 := by
    subst hh
    refine ⟨rM, [], ?_, ?_, MapOk.nil, fun n => by simp [mget]⟩
    · rw [Mem.set_at]; rfl
    · dsimp only; rw [Mem.set_ne n1, Mem.set_ne n1, Mem.set_at]
  refine call_data A0 (impl_orderedVars_spec hsl (fun x h => (hx x h).2) hn) fun v1 μ1 hle1 A1 hR1 => ?_
  rw [hvs] at hR1
  obtain ⟨vb, vc, rfl, hvsl⟩ := Rep.sl hR1
  rw [List.length_map] at hvsl ⊢
  refine loop_intro (fun p : Nat × Mem => p.1 ≤ vs.length ∧ Apart μ1 p.2 ∧ NameInv r3 vs p.1 p.2)
    (fun (i, h) => ⟨[(0, .val (.slice base xs.length cap)), (3, .val (.pointer (some ⟨r3, 0, none⟩))), (14, .val (.slice vb vs.length vc)), (15, .val (.int .i64 vs.length)), (16, .val (.int .i64 i))], [], 0, μ1, h⟩) (fun p => vs.length - p.1)
    (0, h0) ⟨by simp, A1, H0⟩ (fun (_, _) => ⟨rfl, rfl⟩) ⟨⟨rfl, rfl, rfl, rfl, rfl, trivial⟩, trivial, rfl, rfl⟩ ?_
  rintro ⟨i, h⟩ ⟨hi, hap, hJ⟩
  dsimp only at hi hap hJ
  have hJ0 := hJ
  obtain ⟨r, l, h1, h2, hk, hg⟩ := hJ
  have e1 : r3 ≠ r := ne_of_obj h1 h2 (by simp [mapO])
  refine ifd (fun hlt => ?_) (fun hlt => ?_)
  · obtain ⟨n, hn'⟩ := at_some (l := vs) (i := i) (by omega)
    obtain ⟨ad, hel⟩ := Ints.elem hvsl hn'
    have hidx := idx_at hnd hn'
    refine elem_intro hel ?_
    refine own_intro [.map (some r)] rfl (box_at h1) ?_
    refine upd_intro l h2 (hk.weaken (by rintro _ ⟨n, rfl⟩; rfl)) rfl ?_
    refine num64 (by omega) (by omega) ⟨(i + 1, h.set r (mapO (mset l (.int .i64 n) (.int .i64 i)))), ⟨by dsimp only; omega, ?_, r, _, ?_, Mem.set_at _ _ _, hk.int _, fun m => ?_⟩, by dsimp only; omega, ⟨⟨rfl, rfl, rfl, rfl, rfl, trivial⟩, trivial, rfl, rfl⟩⟩
    · refine hap.set ?_
      cases h3 : μ1 r with
      | none => rfl
      | some o => have := hap r (by simp [h3]); rw [h2] at this; cases this
    · dsimp only; rw [Mem.set_ne e1]; exact h1
    · dsimp only
      rw [mget_int, hg, List.take_add_one, hn', Option.toList_some]
      by_cases e : m = n
      · subst e; rw [if_pos rfl, if_pos (by simp), hidx]
      · rw [if_neg e]
        by_cases h2 : m ∈ vs.take i
        · rw [if_pos h2, if_pos (by simp [h2])]
        · rw [if_neg h2, if_neg (by simp [h2, e])]
  · obtain rfl : i = vs.length := by omega
    clear h1 h2 hk hg e1 r l
    intro r25
    refine loop_intro (fun p : Nat × Option Nat × Nat × List Value × Mem => p.1 ≤ xs.length ∧ μ1.Le p.2.2.2.2 ∧ Apart p.2.2.2.2 h ∧ Grown 4 μ p.2.2.2.2 ((((xs.take p.1).map (·.subst (canonF vs))).map T.tm).map Tm.d) p.2.2.2.1)
      (fun (i, b, c, ys, μ') => ⟨[(3, .val (.pointer (some ⟨r3, 0, none⟩))), (6, .row 0 b ys.length c), (26, .val (.slice base xs.length cap)), (27, .val (.int .i64 xs.length)), (28, .val (.int .i64 i))], [(0, some (.row b c 30 4 ys))], 1, μ', h⟩) (fun p => xs.length - p.1)
      (0, some r25, 0, [], μ1) ⟨by simp, Mem.Le.refl _, hap, Grown.nil _ _ _⟩ (fun (_, _, _, _, _) => ⟨rfl, rfl⟩) ⟨⟨rfl, rfl, rfl, rfl, rfl, trivial⟩, ⟨rfl, trivial⟩, rfl, rfl⟩ ?_
    rintro ⟨i, b, c, ys, μ'⟩ ⟨hi, hle, hap', hrows⟩
    dsimp only at hi hle hap' hrows
    have hlen := hrows.len
    simp only [List.length_map, List.length_take] at hlen
    refine ifd (fun hlt => ?_) (fun hlt => ?_)
    · obtain ⟨x, hx'⟩ := at_some (l := xs) (i := i) (by omega)
      obtain ⟨ad, p, hel, hto⟩ := Tm.elem (i := i) (t := x.tm) ((hsl.mono hle1).mono hle) (by simp [hx'])
      refine elem_intro hel ?_
      intro r
      have hcall := mapVars_spec x (Canonical1_looks (μ := μ'.join h) hJ0 (Mem.le_join_right hap')) (hto.mono (Mem.le_join _ _))
      have hsub : x.subst (fun n => some (.var (if n ∈ vs then ((vs.idxOf n : Nat) : Int) else 0))) = x.subst (canonF vs) := T.subst_congr x fun n hnv => by
        have := hcov x (mem_at hx') n hnv
        rw [canonF, if_pos this, if_pos this]
      refine call_lend hap' hcall fun v3 μ3 hle3 hap3 hR3 => ?_
      obtain ⟨q, rfl⟩ := Tm.invV hR3.rep
      intro r5
      refine grow_intro ?_ ?_ fun b' c' _ => ?_
      · show (ys.length + 1) * 56 ≤ _; omega
      · exact Nat.le_trans (m := 100000000) (show ys.length + 1 ≤ _ by omega) (by decide)
      refine num64 (by omega) (by omega) ⟨(i + 1, b', c', _, μ3), ⟨by dsimp only; omega, hle.trans hle3, hap3, ?_⟩, by dsimp only; omega, ⟨⟨rfl, rfl, rfl, rfl, rfl, trivial⟩, ⟨rfl, trivial⟩, rfl, rfl⟩⟩
      dsimp only
      rw [List.take_add_one, hx', Option.toList_some]
      simp only [List.map_append, List.map_cons, List.map_nil]
      exact hrows.snoc (hle1.trans hle) (by rw [← hsub]; exact hR3) hle3 (Tm.d_n _)
    · obtain rfl : i = xs.length := by omega
      rw [List.take_length] at hrows
      refine ret_frz [0] fun μ' hle' hno hrow => .inl ?_
      rw [canon, hvs]
      exact hrows.fresh (hle1.trans hle) hle' hno hrow (Nat.le_trans (m := 100000000) (by omega) (by decide))
end
end Go.Vx

/- Contracts: which substitutions are fine. -/
namespace Go.Vx
open Go.Proofs Classical
/-! ### Plain -/
def bndOk (bs : List B) (b : B) : Prop := ¬ (b.to.tm.kind = 1 ∧ b.var ≤ b.to.tm.num) ∧ ∀ n ∈ b.to.vars, sub bs n = none
def substOk (l : List Bd) : Prop := valsOk l ∧ ∀ b ∈ l.map Bd.b, bndOk (l.map Bd.b) b
theorem B.bd_b (b : B) : b.bd.b = b := by
  cases b; simp [B.bd, Bd.b, T.toT_tm]
theorem B.map_b (bs : List B) : (bs.map B.bd).map Bd.b = bs := by
  rw [List.map_map]
  conv => rhs; rw [← List.map_id bs]
  exact List.map_congr_left fun b _ => B.bd_b b
/-- A fine list of bindings, as terms. -/
structure Vals (bs : List B) : Prop where
  ok : valsOk (bs.map B.bd)
theorem Vals.len {bs : List B} (h : Vals bs) : bs.length ≤ 400 := by have := h.ok.1; simpa using this
theorem Vals.srt {bs : List B} (h : Vals bs) : Srt bs := by have := h.ok.srt; rwa [B.map_b] at this
theorem Vals.tok {bs : List B} (h : Vals bs) : ∀ b ∈ bs, b.to.ok := by have := h.ok.lift.2; rwa [B.map_b] at this
theorem Vals.var {bs : List B} (h : Vals bs) : ∀ b ∈ bs, 0 ≤ b.var ∧ b.var ≤ 100000 := fun b hb => by
  obtain ⟨i, hi⟩ := List.mem_iff_getElem?.1 hb
  exact (h.ok.2 i b.bd (by simp [hi])).1
theorem valsOk.vals {l : List Bd} (h : valsOk l) : ∃ bs : List B, l = bs.map B.bd ∧ Vals bs := ⟨l.map Bd.b, h.lift.1.symm, ⟨by rw [h.lift.1]; exact h⟩⟩
structure Subst (bs : List B) : Prop where
  vals : Vals bs
  bnd : ∀ b ∈ bs, bndOk bs b
theorem substOk_iff (bs : List B) : substOk (bs.map B.bd) ↔ Subst bs := by
  unfold substOk
  rw [B.map_b]
  exact ⟨fun h => ⟨⟨h.1⟩, h.2⟩, fun h => ⟨h.1.1, h.2⟩⟩
theorem substOk.subst {l : List Bd} (h : substOk l) : ∃ bs : List B, l = bs.map B.bd ∧ Subst bs := by
  obtain ⟨bs, rfl, _⟩ := h.1.vals
  exact ⟨bs, rfl, (substOk_iff bs).1 h⟩
section
variable {μ : Mem}
theorem spec_SubstOk_spec {l : List Bd} {base : Option Addr} {cap : Nat} (hsl : Sl μ 5 base l.length (l.map Bd.d)) (hw : D.wds (l.map Bd.d)) : Gives Try.prog 70 [.slice base l.length cap] μ (.bool (decide (substOk l))) := by
  refine Spec.forget (Spec.mk Try.func70 (by kernel_rfl) ?_)
  refine call_gives (l04Values_spec hsl hw) ?_
  refine ifnd (fun h => ret_plain (isF fun k => h k.1)) (fun hv => ?_)
  obtain ⟨bs, rfl, hbs⟩ := hv.vals
  rw [List.length_map] at hsl ⊢
  have hn := hbs.len
  refine loop_intro (fun p : Nat × Mem => p.1 ≤ bs.length ∧ μ.Le p.2 ∧ ∀ (j : Nat) b, j < p.1 → bs[j]? = some b → bndOk bs b)
    (fun (i, μ') => ⟨[(0, .val (.slice base bs.length cap)), (12, .val (.slice base bs.length cap)), (13, .val (.int .i64 bs.length)), (14, .val (.int .i64 i))], [], 0, μ', Mem.nil⟩) (fun p => bs.length - p.1)
    (0, μ) ⟨by simp, Mem.Le.refl μ, fun j b hj => by simp at hj⟩ (fun (_, _) => ⟨rfl, rfl⟩) ⟨⟨rfl, rfl, rfl, rfl, trivial⟩, trivial, rfl, rfl⟩ ?_
  rintro ⟨i, μ'⟩ ⟨hi, hle, hall⟩
  dsimp only at hi hle hall
  refine ifd (fun h => ?_) (fun h => ?_)
  · obtain ⟨b, hb⟩ := at_some (l := bs) (i := i) (by omega)
    obtain ⟨ad, p, hel, hto⟩ := B.elem (hsl.mono hle) hb
    have hsz := (hbs.tok b (mem_at hb)).2
    have hvs := T.vars_size b.to
    have bad : ¬ bndOk bs b → Value.bool false = .bool (decide (substOk (bs.map B.bd))) := fun k => isF fun hs => k (((substOk_iff bs).1 hs).bnd b (mem_at hb))
    refine elem_intro hel ?_
    intro r
    refine ifd (fun h1 => ?_) (fun h1 => ?_)
    · refine ifd (fun h2 => ret_plain (bad fun k => k.1 ⟨h1, h2⟩)) (fun h2 => ?_)
      have hk : ¬ (b.to.tm.kind = 1 ∧ b.var ≤ b.to.tm.num) := fun k => h2 k.2
      refine call_plain (l02Vars_spec b.to (l := []) hto (Rep.nilSl 1) (by simp; omega)) fun v μ2 hle2 hR => ?_
      obtain ⟨rs, hrs, hmem, hlen⟩ := hR
      obtain ⟨vb, vc, rfl, hvs⟩ := Rep.sl hrs
      rw [List.length_map] at hvs hrs ⊢
      have hsl2 := (hsl.mono hle).mono hle2
      refine loop_intro (fun k : Nat => k ≤ rs.length ∧ ∀ (j : Nat) n, j < k → rs[j]? = some n → sub bs n = none)
        (fun k => ⟨[(0, .val (.slice base bs.length cap)), (12, .val (.slice base bs.length cap)), (13, .val (.int .i64 bs.length)), (14, .val (.int .i64 i)), (32, .val (.slice vb rs.length vc)), (33, .val (.int .i64 rs.length)), (34, .val (.int .i64 k))], [], 0, μ2, Mem.nil⟩) (fun k => rs.length - k)
        0 ⟨by omega, fun j n hj => by omega⟩ (fun k => ⟨rfl, rfl⟩) ⟨⟨rfl, rfl, rfl, rfl, rfl, rfl, rfl, trivial⟩, trivial, rfl, rfl⟩ ?_
      rintro k ⟨hkl, hz⟩
      have hrl : rs.length ≤ 5000 := by simp at hlen; omega
      refine ifd (fun h5 => ?_) (fun h5 => ?_)
      · obtain ⟨n, hn'⟩ := at_some (l := rs) (i := k) (by omega)
        obtain ⟨ad2, hel2⟩ := Ints.elem hvs hn'
        refine elem_intro hel2 ?_
        refine call_plain (l04Get_spec hsl2) fun v' μ3 hle3 hR3 => ?_
        obtain ⟨hR3, e3⟩ := hR3
        obtain rfl := e3.symm
        cases hs : sub bs n with
        | some y =>
          rw [hs] at hR3
          obtain ⟨tv, rfl, htv⟩ := hR3
          obtain ⟨q, rfl⟩ := Tm.invV htv
          intro r7
          refine if_intro (fun _ => ret_plain (bad fun k => ?_)) (fun h => nomatch h)
          have := k.2 n (((hmem n).1 (mem_at hn')).elim id (fun h => absurd h (by simp)))
          rw [hs] at this; cases this
        | none =>
          rw [hs] at hR3
          obtain rfl := hR3
          intro r7
          refine if_intro (fun h => nomatch h) (fun _ => ?_)
          refine num64 (by omega) (by omega) ⟨k + 1, ⟨by omega, fun j m hj hm => ?_⟩, by omega, ⟨⟨rfl, rfl, rfl, rfl, rfl, rfl, rfl, trivial⟩, trivial, rfl, rfl⟩⟩
          rcases Nat.lt_or_ge j k with h6 | h6
          · exact hz j m h6 hm
          · obtain rfl : j = k := by omega
            rw [hn'] at hm; cases hm; exact hs
      · obtain rfl : k = rs.length := by omega
        refine num64 (by omega) (by omega) ⟨(i + 1, μ2), ⟨by dsimp only; omega, hle.trans hle2, fun j c hj hc => ?_⟩, by dsimp only; omega, ⟨⟨rfl, rfl, rfl, rfl, trivial⟩, trivial, rfl, rfl⟩⟩
        dsimp only at hj
        rcases Nat.lt_or_ge j i with h6 | h6
        · exact hall j c h6 hc
        · obtain rfl : j = i := by omega
          rw [hb] at hc; cases hc
          refine ⟨hk, fun n hnv => ?_⟩
          obtain ⟨m, hm⟩ := List.mem_iff_getElem?.1 ((hmem n).2 (.inl hnv))
          exact hz m n (List.getElem?_eq_some_iff.1 hm).1 hm
    · have hk : ¬ (b.to.tm.kind = 1 ∧ b.var ≤ b.to.tm.num) := fun k => h1 k.1
      refine call_plain (l02Vars_spec b.to (l := []) hto (Rep.nilSl 1) (by simp; omega)) fun v μ2 hle2 hR => ?_
      obtain ⟨rs, hrs, hmem, hlen⟩ := hR
      obtain ⟨vb, vc, rfl, hvs⟩ := Rep.sl hrs
      rw [List.length_map] at hvs hrs ⊢
      have hsl2 := (hsl.mono hle).mono hle2
      refine loop_intro (fun k : Nat => k ≤ rs.length ∧ ∀ (j : Nat) n, j < k → rs[j]? = some n → sub bs n = none)
        (fun k => ⟨[(0, .val (.slice base bs.length cap)), (12, .val (.slice base bs.length cap)), (13, .val (.int .i64 bs.length)), (14, .val (.int .i64 i)), (32, .val (.slice vb rs.length vc)), (33, .val (.int .i64 rs.length)), (34, .val (.int .i64 k))], [], 0, μ2, Mem.nil⟩) (fun k => rs.length - k)
        0 ⟨by omega, fun j n hj => by omega⟩ (fun k => ⟨rfl, rfl⟩) ⟨⟨rfl, rfl, rfl, rfl, rfl, rfl, rfl, trivial⟩, trivial, rfl, rfl⟩ ?_
      rintro k ⟨hkl, hz⟩
      have hrl : rs.length ≤ 5000 := by simp at hlen; omega
      refine ifd (fun h5 => ?_) (fun h5 => ?_)
      · obtain ⟨n, hn'⟩ := at_some (l := rs) (i := k) (by omega)
        obtain ⟨ad2, hel2⟩ := Ints.elem hvs hn'
        refine elem_intro hel2 ?_
        refine call_plain (l04Get_spec hsl2) fun v' μ3 hle3 hR3 => ?_
        obtain ⟨hR3, e3⟩ := hR3
        obtain rfl := e3.symm
        cases hs : sub bs n with
        | some y =>
          rw [hs] at hR3
          obtain ⟨tv, rfl, htv⟩ := hR3
          obtain ⟨q, rfl⟩ := Tm.invV htv
          intro r7
          refine if_intro (fun _ => ret_plain (bad fun k => ?_)) (fun h => nomatch h)
          have := k.2 n (((hmem n).1 (mem_at hn')).elim id (fun h => absurd h (by simp)))
          rw [hs] at this; cases this
        | none =>
          rw [hs] at hR3
          obtain rfl := hR3
          intro r7
          refine if_intro (fun h => nomatch h) (fun _ => ?_)
          refine num64 (by omega) (by omega) ⟨k + 1, ⟨by omega, fun j m hj hm => ?_⟩, by omega, ⟨⟨rfl, rfl, rfl, rfl, rfl, rfl, rfl, trivial⟩, trivial, rfl, rfl⟩⟩
          rcases Nat.lt_or_ge j k with h6 | h6
          · exact hz j m h6 hm
          · obtain rfl : j = k := by omega
            rw [hn'] at hm; cases hm; exact hs
      · obtain rfl : k = rs.length := by omega
        refine num64 (by omega) (by omega) ⟨(i + 1, μ2), ⟨by dsimp only; omega, hle.trans hle2, fun j c hj hc => ?_⟩, by dsimp only; omega, ⟨⟨rfl, rfl, rfl, rfl, trivial⟩, trivial, rfl, rfl⟩⟩
        dsimp only at hj
        rcases Nat.lt_or_ge j i with h6 | h6
        · exact hall j c h6 hc
        · obtain rfl : j = i := by omega
          rw [hb] at hc; cases hc
          refine ⟨hk, fun n hnv => ?_⟩
          obtain ⟨m, hm⟩ := List.mem_iff_getElem?.1 ((hmem n).2 (.inl hnv))
          exact hz m n (List.getElem?_eq_some_iff.1 hm).1 hm
  · obtain rfl : i = bs.length := by omega
    exact ret_plain (isT ((substOk_iff bs).2 ⟨hbs, fun b hb => by
      obtain ⟨j, hj⟩ := List.mem_iff_getElem?.1 hb
      exact hall j b (List.getElem?_eq_some_iff.1 hj).1 hj⟩))
/-- A cell of one's own beside other memory. -/
def boolOn (H : Mem) (r : Nat) (b : Bool) : Mem := H.set r (.cells #[.bool b] 4 (0, 0))
noncomputable def unbound (bs : List B) (f : Bool) (n : Int) : Bool := if sub bs n = none then f else false
theorem SubstOk1_spec {bs : List B} {base : Option Addr} {cap : Nat} {H : Mem} {r1 : Nat} {t1 : TypeId} (r : Nat) (b : Bool) (n : Int) (hs : Srt bs) (hlen : bs.length ≤ 1000000000) (hsl : Sl μ 5 base bs.length ((bs.map B.bd).map Bd.d)) (h1 : μ r1 = some (.cells #[.slice base bs.length cap] t1 (0, 0))) :
    SpecH Try.prog 153 [.int .i64 n, .pointer (some ⟨r1, 0, none⟩), .pointer (some ⟨r, 0, none⟩)] μ (boolOn H r b) fun v μ' h' => v = .tuple #[] ∧ μ' = μ ∧ h' = boolOn H r (unbound bs b n) := by
  refine SpecH.mk [] Try.func153 (by kernel_rfl) ?_
  refine ext_intro [.slice base bs.length cap] rfl (box_at h1) ?_
  refine call_plain (find_spec hs hlen hsl) fun v μ2 hle2 hR => ?_
  obtain ⟨hR, e2⟩ := hR
  obtain rfl := e2.symm
  rcases hR with ⟨i, c, rfl, hc, hn⟩ | ⟨rfl, hno⟩
  · refine ifd (fun _ => ?_) (fun h => absurd h (by omega))
    refine sto_intro (h := boolOn H r b) (a := ⟨r, 0, none⟩) [.bool b] 4 (set_self _ _ _) rfl ?_ ?_
    · exact Nat.le_refl _
    have e : sub bs n ≠ none := by rw [sub_some hs hc hn]; exact fun h => nomatch h
    exact ret_plain ⟨rfl, rfl, by rw [unbound, if_neg e]; exact Mem.set_set _ _ _ _⟩
  · refine ifd (fun h => absurd h (by omega)) (fun _ => ?_)
    exact ret_plain ⟨rfl, rfl, by rw [unbound, if_pos (sub_none hno)]⟩
theorem unbound_all (bs : List B) : ∀ (l : List Int) (f : Bool), l.foldl (unbound bs) f = (f && decide (∀ n ∈ l, sub bs n = none))
  | [], f => by simp
  | n :: l, f => by
    rw [List.foldl_cons, unbound_all bs l, unbound]
    by_cases h : sub bs n = none <;> simp [h]
theorem impl_SubstOk_spec {l : List Bd} {base : Option Addr} {cap : Nat} (hsl : Sl μ 5 base l.length (l.map Bd.d)) : Gives Try.prog 75 [.slice base l.length cap] μ (.bool (decide (substOk l))) := by
  refine Spec.forget (Spec.mkO [5] Try.func75 (by kernel_rfl) ?_)
  intro r1
  refine call_frz [0] ?_
  intro μ1 hle1 hno1 hat1
  refine call_go (impl_ValuesOk_spec (hsl.mono hle1)) fun v μ2 hle2 hR => ?_
  obtain ⟨rfl, e2⟩ := hR
  obtain rfl := e2.symm
  refine ifnd (fun h => ret_plain (isF fun k => h k.1)) (fun hv => ?_)
  obtain ⟨bs, rfl, hbs⟩ := hv.vals
  rw [List.length_map] at hsl hat1 ⊢
  have hn := hbs.len
  have hsl1 := hsl.mono hle1
  refine ext_intro [.slice base bs.length cap] rfl (box_at hat1) ?_
  refine loop_intro (fun p : Nat × Mem => p.1 ≤ bs.length ∧ ∀ (j : Nat) b, j < p.1 → bs[j]? = some b → bndOk bs b)
    (fun (i, H) => ⟨[(1, .loc 0 r1 0), (9, .val (.slice base bs.length cap)), (10, .val (.int .i64 bs.length)), (11, .val (.int .i64 i))], [], 1, μ1, H⟩) (fun p => bs.length - p.1)
    (0, Mem.nil) ⟨by simp, fun j b hj => by simp at hj⟩ (fun (_, _) => ⟨rfl, rfl⟩) ⟨⟨rfl, rfl, rfl, rfl, trivial⟩, trivial, rfl, rfl⟩ ?_
  rintro ⟨i, H⟩ ⟨hi, hall⟩
  dsimp only at hi hall
  refine ifd (fun h => ?_) (fun h => ?_)
  · obtain ⟨b, hb⟩ := at_some (l := bs) (i := i) (by omega)
    obtain ⟨ad, p, hel, hto⟩ := B.elem hsl1 hb
    have bad : ¬ bndOk bs b → Value.bool false = .bool (decide (substOk (bs.map B.bd))) := fun k => isF fun hs => k (((substOk_iff bs).1 hs).bnd b (mem_at hb))
    refine elem_intro hel ?_
    intro r r5 hm5 ho5
    refine sto_intro [.bool false] 4 (set_self _ _ _) rfl ?_ ?_
    · exact Nat.le_refl _
    have e : ((H.set r5 (.cells #[.bool false] 4 (0, 0))).set r5 (.cells #[.bool true] 4 (0, 0))) = boolOn H r5 true := Mem.set_set _ _ _ _
    refine call_own (R := fun r μ' h' => r = .tuple #[] ∧ μ' = μ1 ∧ h' = boolOn H r5 (b.to.vars.foldl (unbound bs) true)) ?_ fun v μ' h' hle hap hR => ?_
    · have := eachVar_spec (μ := μ1) (boolOn H r5) (unbound bs) (Q := fun _ => True) (fun s n _ => SubstOk1_spec (H := H) r5 s n hbs.srt (by omega) hsl1 hat1) b.to true hto (fun _ _ => trivial)
      rw [← e] at this
      exact this
    obtain ⟨rfl, e4, rfl⟩ := hR
    obtain rfl := e4.symm
    rw [unbound_all, Bool.true_and]
    refine own_intro [.bool (decide (∀ n ∈ b.to.vars, sub bs n = none))] rfl (fun j v hj => ?_) ?_
    · match j, hj with
      | 0, hj => cases hj; simp [boolOn, Mem.cell, Addr.add_lit', set_self]
    have fin : bndOk bs b → ∀ (j : Nat) c, j < i + 1 → bs[j]? = some c → bndOk bs c := fun hok j c hj hc => by
      rcases Nat.lt_or_ge j i with h6 | h6
      · exact hall j c h6 hc
      · obtain rfl : j = i := by omega
        rw [hb] at hc; cases hc; exact hok
    refine ifnd (fun h1 => ret_plain (bad fun k => h1 k.2)) (fun h1 => ?_)
    refine ifd (fun h2 => ?_) (fun h2 => ?_)
    · refine ifd (fun h3 => ret_plain (bad fun k => k.1 ⟨h2, h3⟩)) (fun h3 => ?_)
      exact num64 (by omega) (by omega) ⟨(i + 1, _), ⟨by dsimp only; omega, fin ⟨fun k => h3 k.2, h1⟩⟩, by dsimp only; omega, ⟨⟨rfl, rfl, rfl, rfl, trivial⟩, trivial, rfl, rfl⟩⟩
    · exact num64 (by omega) (by omega) ⟨(i + 1, _), ⟨by dsimp only; omega, fin ⟨fun k => h2 k.1, h1⟩⟩, by dsimp only; omega, ⟨⟨rfl, rfl, rfl, rfl, trivial⟩, trivial, rfl, rfl⟩⟩
  · obtain rfl : i = bs.length := by omega
    exact ret_plain (isT ((substOk_iff bs).2 ⟨hbs, fun b hb => by
      obtain ⟨j, hj⟩ := List.mem_iff_getElem?.1 hb
      exact hall j b (List.getElem?_eq_some_iff.1 hj).1 hj⟩))
end
end Go.Vx

/- Marks counted; the term of an answer. -/
namespace Go.Vx
open Go.Proofs Classical
theorem tm_cnt : ∀ t : Tm, t.d.cnt = 3 * t.cnt :=
  Tm.ind fun k n s l ih => by
    have : D.cnts (l.map Tm.d) = 3 * Tm.cnts l := by
      induction l with
      | nil => rfl
      | cons t l ih2 =>
        have h1 := ih t (by simp)
        have h2 := ih2 fun t ht => ih t (by simp [ht])
        simp only [List.map_cons, D.cnts, Tm.cnts, h1, h2]; omega
    rw [Tm.cnt_eq, Tm.cnt]
    show 3 + D.cnts (l.map Tm.d) = _
    omega
theorem tm_cnt_sz : ∀ t : Tm, t.d.cnt ≤ 3 + 3 * t.d.sz :=
  Tm.ind fun k n s l ih => by
    have : D.cnts (l.map Tm.d) ≤ 3 * l.length + 3 * D.szs (l.map Tm.d) := by
      induction l with
      | nil => simp [D.cnts, D.szs]
      | cons t l ih2 =>
        have h1 := ih t (by simp)
        have h2 := ih2 fun t ht => ih t (by simp [ht])
        simp only [List.map_cons, D.cnts, D.szs, List.length_cons]; omega
    rw [Tm.cnt_eq, Tm.d_mk]
    show 3 + D.cnts (l.map Tm.d) ≤ _
    simp only [D.sz, D.szs, List.length_map]
    omega
theorem bds_cnt : ∀ l : List Bd, D.cnts (l.map Bd.d) ≤ 4 * l.length + 3 * D.szs (l.map Bd.d)
  | [] => by simp [D.cnts, D.szs]
  | b :: l => by
    have h1 := bds_cnt l
    have h2 := tm_cnt_sz b.to
    rw [Tm.cnt_eq] at h2
    have h3 := Bd.cnt_eq b
    have h4 : b.d.sz = b.to.d.sz := by simp [Bd.d, D.sz, D.szs]
    simp only [List.map_cons, D.cnts, D.szs, List.length_cons]; omega
theorem tm_mt (t : Tm) (k : Int) : (t.d.mt k).2 = k + D.cnts (t.args.map Tm.d) := by rw [Tm.mt_eq]; exact D.mks_cnt _ _
/-- The term of an answer. -/
def resTm : Option T → Tm
  | some y => y.tm
  | none => .mk 0 0 ⟨#[]⟩ []
theorem zero_own : OwnV (resTm none).d Mem.nil (.agg #[.int .i64 0, .int .i64 0, .string ⟨#[]⟩, .slice none 0 0]) := by
  rw [resTm, Tm.d_mk]
  exact ⟨_, rfl, OwnS.int (OwnS.int (OwnS.str (OwnS.last (Own.nilSl 4))))⟩
theorem optV_rep {μ : Mem} {o : Option T} {v : Value} (h : optV (fun y tv => RepV μ y.tm.d tv) o v) : ∃ tv, v = .tuple #[tv, .bool o.isSome] ∧ RepV μ (resTm o).d tv := by
  cases o with
  | some y => obtain ⟨tv, rfl, h⟩ := h; exact ⟨tv, rfl, h⟩
  | none => exact ⟨_, h, zero_own.rep (fun _ _ h => nomatch h)⟩
theorem optV_fresh {μ μ' : Mem} {o : Option T} {v : Value} (h : optV (fun y tv => Fresh μ μ' y.tm.d tv) o v) : ∃ tv, v = .tuple #[tv, .bool o.isSome] ∧ Fresh μ μ' (resTm o).d tv := by
  cases o with
  | some y => obtain ⟨tv, rfl, h⟩ := h; exact ⟨tv, rfl, h⟩
  | none => exact ⟨_, h, Mem.nil, zero_own, (fun _ _ h => nomatch h), fun _ h => absurd rfl h⟩
end Go.Vx

/- Contracts: substitutions applied; which one is more general; unifiers. -/
namespace Go.Vx
open Go.Proofs Classical
/-! ### Plain -/
noncomputable def appl (l : List Bd) (t : Tm) : Option T := if substOk l ∧ t.Ok then fit (t.toT.subst (sub (l.map Bd.b))) else none
theorem fit_some {x y : T} : fit x = some y ↔ x.size ≤ 5000 ∧ x = y := by
  unfold fit
  split
  · rename_i h; exact ⟨fun k => ⟨h, Option.some.inj k⟩, fun k => by rw [k.2]⟩
  · rename_i h; exact ⟨fun k => (nomatch k), fun k => absurd k.1 h⟩
theorem fit_isSome (x : T) : (fit x).isSome = decide (x.size ≤ 5000) := by
  unfold fit
  split <;> simp_all
section
variable {μ : Mem}
theorem spec_ApplySubst_spec {t : Tm} {l : List Bd} {v : Value} {base : Option Addr} {cap : Nat} (hsl : Sl μ 5 base l.length (l.map Bd.d)) (hwl : D.wds (l.map Bd.d)) (hv : RepV μ t.d v) (hw : t.d.wd) :
    Spec Try.prog 15 [.slice base l.length cap, v] μ fun v μ' => optV (fun y tv => RepV μ' y.tm.d tv) (appl l t) v := by
  obtain ⟨p, rfl⟩ := Tm.invV hv
  refine Spec.mk Try.func15 (by kernel_rfl) ?_
  intro r1 r2
  refine call_gives (spec_SubstOk_spec hsl hwl) ?_
  refine ifnd (fun h => ret_plain (by rw [appl, if_neg fun k => h k.1]; rfl)) (fun h1 => ?_)
  refine call_gives (spec_TermOk_spec t hv hw) ?_
  refine ifnd (fun h => ret_plain (by rw [appl, if_neg fun k => h k.2]; rfl)) (fun h2 => ?_)
  obtain ⟨x, _, rfl⟩ := h2.lift
  obtain ⟨bs, rfl, hbs⟩ := h1.subst
  rw [List.length_map] at hsl ⊢
  have e3 : appl (bs.map B.bd) x.tm = fit (x.subst (sub bs)) := by
    rw [appl, if_pos ⟨h1, h2⟩, T.toT_tm, B.map_b]
  rw [e3]
  refine call_plain (l04Apply_spec x hsl hv) fun v1 μ1 hle1 hR => ?_
  obtain ⟨tv, rfl, hR⟩ := hR
  obtain ⟨q, rfl⟩ := Tm.invV hR
  intro r3
  refine ifnd (fun h => ret_plain (by rw [fit, if_neg h]; rfl)) (fun h3 => ?_)
  refine call_plain (l02Copy_spec _ hR) fun v2 μ2 hle2 hR2 => ?_
  obtain ⟨q2, rfl⟩ := Tm.invV hR2
  refine ret_plain ?_
  rw [fit, if_pos h3]
  exact ⟨_, rfl, hR2⟩
theorem impl_ApplySubst_spec {t : Tm} {l : List Bd} {v : Value} {base : Option Addr} {cap : Nat} (hsl : Sl μ 5 base l.length (l.map Bd.d)) (hv : RepV μ t.d v) :
    Spec Try.prog 18 [.slice base l.length cap, v] μ fun v μ' => optV (fun y tv => Fresh μ μ' y.tm.d tv) (appl l t) v := by
  obtain ⟨p, rfl⟩ := Tm.invV hv
  refine Spec.mk Try.func18 (by kernel_rfl) ?_
  intro r1 r2
  refine call_gives (impl_SubstOk_spec hsl) ?_
  refine ifnd (fun h => ret_plain (by rw [appl, if_neg fun k => h k.1]; rfl)) (fun h1 => ?_)
  refine call_gives (impl_TermOk_spec t hv) ?_
  refine ifnd (fun h => ret_plain (by rw [appl, if_neg fun k => h k.2]; rfl)) (fun h2 => ?_)
  obtain ⟨x, _, rfl⟩ := h2.lift
  obtain ⟨bs, rfl, hbs⟩ := h1.subst
  rw [List.length_map] at hsl ⊢
  have hlen := hbs.vals.len
  have e3 : appl (bs.map B.bd) x.tm = fit (x.subst (sub bs)) := by
    rw [appl, if_pos ⟨h1, h2⟩, T.toT_tm, B.map_b]
  rw [e3]
  refine call_plain (put_spec x hbs.vals.srt (by omega) hbs.vals.tok hsl hv) fun v1 μ1 hle1 hR => ?_
  cases hf : fit (x.subst (sub bs)) with
  | some y =>
    rw [hf] at hR
    obtain ⟨tv, rfl, htv⟩ := hR
    obtain ⟨q, rfl⟩ := Tm.invV htv.rep
    exact ret_plain ⟨_, rfl, htv⟩
  | none =>
    rw [hf] at hR
    obtain rfl := hR
    exact ret_plain rfl
end
end Go.Vx

/- Contracts: the reference's Instantiate. -/
namespace Go.Vx
open Go.Proofs Classical
section
variable {μ : Mem}
/-- What 'Instantiate' gives. -/
noncomputable def inst (t : Tm) (l : List Bd) : Option T := if t.Ok ∧ valsOk l ∧ (t.toT.subst (sub (l.map Bd.b))).size ≤ 5000 then some (t.toT.subst (sub (l.map Bd.b))) else none
theorem spec_Instantiate_spec {t : Tm} {l : List Bd} {v : Value} {base : Option Addr} {cap : Nat} (hv : RepV μ t.d v) (hw : t.d.wd) (hsl : Sl μ 5 base l.length (l.map Bd.d)) (hwl : D.wds (l.map Bd.d)) :
    Spec Try.prog 80 [v, .slice base l.length cap] μ fun v μ' => optV (fun y tv => RepV μ' y.tm.d tv) (inst t l) v := by
  obtain ⟨p, rfl⟩ := Tm.invV hv
  refine Spec.mk Try.func80 (by kernel_rfl) ?_
  intro r1 r2
  refine call_gives (spec_TermOk_spec t hv hw) ?_
  refine ifnd (fun h => ret_plain (by rw [inst, if_neg fun k => h k.1]; rfl)) (fun h1 => ?_)
  refine call_gives (spec_ValuesOk_spec hsl hwl) ?_
  refine ifnd (fun h => ret_plain (by rw [inst, if_neg fun k => h k.2.1]; rfl)) (fun h2 => ?_)
  have e1 := h1.toT.2
  have e2 := h2.lift.1
  have hv' : RepV μ t.toT.tm.d (.agg #[.int .i64 t.kind, .int .i64 t.num, .string t.name, .slice p.1 t.args.length p.2]) := by rw [e1]; exact hv
  have hsl' : Sl μ 5 base (l.map Bd.b).length (((l.map Bd.b).map B.bd).map Bd.d) := by rw [e2, List.length_map]; exact hsl
  have hcall := l04Apply_spec (cap := cap) t.toT hsl' hv'
  rw [List.length_map] at hcall
  refine call_plain hcall fun v1 μ1 hle1 hR => ?_
  obtain ⟨tv, rfl, hR⟩ := hR
  obtain ⟨q, rfl⟩ := Tm.invV hR
  intro r3
  refine ifnd (fun h => ret_plain (by rw [inst, if_neg fun k => h k.2.2]; rfl)) (fun h3 => ?_)
  refine call_plain (l02Copy_spec _ hR) fun v2 μ2 hle2 hR2 => ?_
  obtain ⟨q2, rfl⟩ := Tm.invV hR2
  refine ret_plain ?_
  rw [inst, if_pos ⟨h1, h2, h3⟩]
  exact ⟨_, rfl, hR2⟩
end
end Go.Vx

/- Contracts: a disequality holds of values. -/
namespace Go.Vx
open Go.Proofs Classical
def differ (bl : List B) (b : B) : Prop := ∃ x y, fit ((T.var b.var).subst (sub bl)) = some x ∧ fit (b.to.subst (sub bl)) = some y ∧ x ≠ y
def disHolds (l m : List Bd) : Prop := substOk l ∧ valsOk m ∧ ∃ b ∈ l.map Bd.b, differ (m.map Bd.b) b
theorem disHolds_iff (bs bl : List B) : disHolds (bs.map B.bd) (bl.map B.bd) ↔ Subst bs ∧ Vals bl ∧ ∃ b ∈ bs, differ bl b := by
  unfold disHolds
  rw [substOk_iff, B.map_b, B.map_b]
  exact ⟨fun h => ⟨h.1, ⟨h.2.1⟩, h.2.2⟩, fun h => ⟨h.1, h.2.1.1, h.2.2⟩⟩
theorem inst_tm {x : T} (hx : x.ok) (m : List Bd) : inst x.tm m = if valsOk m then fit (x.subst (sub (m.map Bd.b))) else none := by
  rw [inst, T.toT_tm, fit]
  by_cases h : valsOk m
  · rw [if_pos h]
    by_cases h2 : (x.subst (sub (m.map Bd.b))).size ≤ 5000
    · rw [if_pos ⟨hx.tm, h, h2⟩, if_pos h2]
    · rw [if_neg fun k => h2 k.2.2, if_neg h2]
  · rw [if_neg fun k => h k.2.1, if_neg h]
theorem var_ok {n : Int} (h : 0 ≤ n ∧ n ≤ 100000) : (T.var n).ok := ⟨h, by simp [T.size]⟩
theorem var_wd {n : Int} (h : 0 ≤ n ∧ n ≤ 100000) : (T.var n).tm.d.wd := by
  rw [T.d_eq]
  exact ⟨⟨show (-9223372036854775808 : Int) ≤ 1 by decide, show (1 : Int) ≤ 9223372036854775807 by decide⟩, ⟨show _ ≤ n by omega, show n ≤ _ by omega⟩, Nat.zero_le _, trivial, trivial⟩
section
variable {μ : Mem}
theorem impl_DisequalityHolds_spec {l m : List Bd} {base base2 : Option Addr} {cap cap2 : Nat} (hsl : Sl μ 5 base l.length (l.map Bd.d)) (hsl2 : Sl μ 5 base2 m.length (m.map Bd.d)) :
    Gives Try.prog 25 [.slice base l.length cap, .slice base2 m.length cap2] μ (.bool (decide (disHolds l m))) := by
  refine Spec.forget (Spec.mk Try.func25 (by kernel_rfl) ?_)
  refine call_gives (impl_SubstOk_spec hsl) ?_
  refine ifnd (fun h => ret_plain (isF fun k => h k.1)) (fun h1 => ?_)
  refine call_gives (impl_ValuesOk_spec hsl2) ?_
  refine ifnd (fun h => ret_plain (isF fun k => h k.2.1)) (fun h2 => ?_)
  obtain ⟨bs, rfl, hbs⟩ := h1.subst
  obtain ⟨bt, rfl, ht⟩ := h2.vals
  rw [List.length_map] at hsl ⊢
  rw [List.length_map] at hsl2 ⊢
  have hn := hbs.vals.len
  have htl := ht.len
  let good := differ bt
  have none : (∀ b ∈ bs, ¬ good b) → Value.bool false = .bool (decide (disHolds (bs.map B.bd) (bt.map B.bd))) := fun k => isF fun h => by
    obtain ⟨b, hb, h⟩ := ((disHolds_iff bs bt).1 h).2.2
    exact k b hb h
  refine loop_intro (fun p : Nat × Mem => p.1 ≤ bs.length ∧ μ.Le p.2 ∧ ∀ (j : Nat) b, j < p.1 → bs[j]? = some b → ¬ good b)
    (fun (i, μ') => ⟨[(1, .val (.slice base2 bt.length cap2)), (19, .val (.slice base bs.length cap)), (20, .val (.int .i64 bs.length)), (21, .val (.int .i64 i))], [], 0, μ', Mem.nil⟩) (fun p => bs.length - p.1)
    (0, μ) ⟨by simp, Mem.Le.refl μ, fun j b hj => by simp at hj⟩ (fun (_, _) => ⟨rfl, rfl⟩) ⟨⟨rfl, rfl, rfl, rfl, trivial⟩, trivial, rfl, rfl⟩ ?_
  rintro ⟨i, μ'⟩ ⟨hi, hle, hall⟩
  dsimp only at hi hle hall
  refine ifd (fun h => ?_) (fun h => ?_)
  rotate_left
  · obtain rfl : i = bs.length := by omega
    exact ret_plain (none fun b hb => by
      obtain ⟨j, hj⟩ := List.mem_iff_getElem?.1 hb
      exact hall j b (List.getElem?_eq_some_iff.1 hj).1 hj)
  obtain ⟨b, hb⟩ := at_some (l := bs) (i := i) (by omega)
  obtain ⟨ad, p, hel, hto⟩ := B.elem (hsl.mono hle) hb
  have hsl2' := hsl2.mono hle
  have fin : ∀ μ3, μ'.Le μ3 → ¬ good b → i + 1 ≤ bs.length ∧ μ.Le μ3 ∧ ∀ (j : Nat) c, j < i + 1 → bs[j]? = some c → ¬ good c := fun μ3 hle3 hg => ⟨by omega, hle.trans hle3, fun j c hj hc => by
    rcases Nat.lt_or_ge j i with h6 | h6
    · exact hall j c h6 hc
    · obtain rfl : j = i := by omega
      rw [hb] at hc; cases hc; exact hg⟩
  refine elem_intro hel ?_
  intro r
  have no : ¬ differ bt b → ¬ good b := id
  have yes : ∀ b ∈ bs, differ bt b → Value.bool true = .bool (decide (disHolds (bs.map B.bd) (bt.map B.bd))) := fun b hb h => isT ((disHolds_iff bs bt).2 ⟨hbs, ht, b, hb, h⟩)
  refine call_gives (variable_spec _) ?_
  refine call_plain (put_spec (T.var b.var) ht.srt (by omega) ht.tok hsl2' (varV_rep _)) fun v1 μ1 hle1 hR1 => ?_
  obtain ⟨tv1, rfl, hf1⟩ := optV_fresh hR1
  obtain ⟨p1, rfl⟩ := Tm.invV hf1.rep
  intro r7
  refine call_plain (put_spec b.to ht.srt (by omega) ht.tok (hsl2'.mono hle1) (hto.mono hle1)) fun v2 μ2 hle2 hR2 => ?_
  obtain ⟨tv2, rfl, hf2⟩ := optV_fresh hR2
  obtain ⟨p2, rfl⟩ := Tm.invV hf2.rep
  intro r9
  cases e1 : fit ((T.var b.var).subst (sub bt)) with
  | none => exact if_intro (fun h => nomatch h) (fun _ => num64 (by omega) (by omega) ⟨(i + 1, μ2), fin μ2 (hle1.trans hle2) (no (by rintro ⟨x, y, k, _⟩; first | cases k | (rw [e1] at k; cases k))), by dsimp only; omega, ⟨⟨rfl, rfl, rfl, rfl, trivial⟩, trivial, rfl, rfl⟩⟩)
  | some x1 =>
    refine if_intro (fun _ => ?_) (fun h => nomatch h)
    cases e2 : fit (b.to.subst (sub bt)) with
    | none => exact if_intro (fun h => nomatch h) (fun _ => num64 (by omega) (by omega) ⟨(i + 1, μ2), fin μ2 (hle1.trans hle2) (no (by rintro ⟨x, y, _, k, _⟩; first | cases k | (rw [e2] at k; cases k))), by dsimp only; omega, ⟨⟨rfl, rfl, rfl, rfl, trivial⟩, trivial, rfl, rfl⟩⟩)
    | some x2 =>
      refine if_intro (fun _ => ?_) (fun h => nomatch h)
      rw [e1] at hf1
      rw [e2] at hf2
      refine call_gives (equalTerms_spec x1 x2 (hf1.rep.mono hle2) hf2.rep) ?_
      refine ifnd (fun h9 => ?_) (fun h9 => ?_)
      · exact ret_plain (yes b (mem_at hb) ⟨x1, x2, e1, e2, h9⟩)
      · exact num64 (by omega) (by omega) ⟨(i + 1, μ2), fin μ2 (hle1.trans hle2) (no (by rintro ⟨x, y, k1, k2, k3⟩; first | cases k1 | (rw [e1] at k1; cases k1); first | cases k2 | (rw [e2] at k2; cases k2); exact k3 h9)), by dsimp only; omega, ⟨⟨rfl, rfl, rfl, rfl, trivial⟩, trivial, rfl, rfl⟩⟩
theorem spec_DisequalityHolds_spec {l m : List Bd} {base base2 : Option Addr} {cap cap2 : Nat} (hsl : Sl μ 5 base l.length (l.map Bd.d)) (hw : D.wds (l.map Bd.d)) (hsl2 : Sl μ 5 base2 m.length (m.map Bd.d)) (hw2 : D.wds (m.map Bd.d)) :
    Gives Try.prog 24 [.slice base l.length cap, .slice base2 m.length cap2] μ (.bool (decide (disHolds l m))) := by
  refine Spec.forget (Spec.mk Try.func24 (by kernel_rfl) ?_)
  refine call_gives (spec_SubstOk_spec hsl hw) ?_
  refine ifnd (fun h => ret_plain (isF fun k => h k.1)) (fun h1 => ?_)
  obtain ⟨bs, rfl, hbs⟩ := h1.subst
  rw [List.length_map] at hsl ⊢
  have hn := hbs.vals.len
  let good := fun b : B => ∃ x y, inst (T.var b.var).tm m = some x ∧ inst b.to.tm m = some y ∧ x ≠ y
  have hgood : ∀ b ∈ bs, good b ↔ valsOk m ∧ differ (m.map Bd.b) b := fun b hb => by
    have h1 := inst_tm (var_ok (hbs.vals.var b hb)) m
    have h2 := inst_tm (hbs.vals.tok b hb) m
    show (∃ x y, inst (T.var b.var).tm m = some x ∧ inst b.to.tm m = some y ∧ x ≠ y) ↔ _
    rw [h1, h2]
    by_cases hv : valsOk m
    · rw [if_pos hv, if_pos hv]; exact ⟨fun h => ⟨hv, h⟩, fun h => h.2⟩
    · rw [if_neg hv, if_neg hv]; exact ⟨fun ⟨x, y, h, _⟩ => (nomatch h), fun h => absurd h.1 hv⟩
  have hiff : disHolds (bs.map B.bd) m ↔ ∃ b ∈ bs, good b := by
    unfold disHolds
    rw [substOk_iff, B.map_b]
    exact ⟨fun ⟨_, h2, b, hb, h3⟩ => ⟨b, hb, (hgood b hb).2 ⟨h2, h3⟩⟩, fun ⟨b, hb, h⟩ => ⟨hbs, ((hgood b hb).1 h).1, b, hb, ((hgood b hb).1 h).2⟩⟩
  have none : (∀ b ∈ bs, ¬ good b) → Value.bool false = .bool (decide (disHolds (bs.map B.bd) m)) := fun k => isF fun h => by
    obtain ⟨b, hb, h⟩ := hiff.1 h
    exact k b hb h
  refine loop_intro (fun p : Nat × Mem => p.1 ≤ bs.length ∧ μ.Le p.2 ∧ ∀ (j : Nat) b, j < p.1 → bs[j]? = some b → ¬ good b)
    (fun (i, μ') => ⟨[(1, .val (.slice base2 m.length cap2)), (14, .val (.slice base bs.length cap)), (15, .val (.int .i64 bs.length)), (16, .val (.int .i64 i))], [], 0, μ', Mem.nil⟩) (fun p => bs.length - p.1)
    (0, μ) ⟨by simp, Mem.Le.refl μ, fun j b hj => by simp at hj⟩ (fun (_, _) => ⟨rfl, rfl⟩) ⟨⟨rfl, rfl, rfl, rfl, trivial⟩, trivial, rfl, rfl⟩ ?_
  rintro ⟨i, μ'⟩ ⟨hi, hle, hall⟩
  dsimp only at hi hle hall
  refine ifd (fun h => ?_) (fun h => ?_)
  rotate_left
  · obtain rfl : i = bs.length := by omega
    exact ret_plain (none fun b hb => by
      obtain ⟨j, hj⟩ := List.mem_iff_getElem?.1 hb
      exact hall j b (List.getElem?_eq_some_iff.1 hj).1 hj)
  obtain ⟨b, hb⟩ := at_some (l := bs) (i := i) (by omega)
  obtain ⟨ad, p, hel, hto⟩ := B.elem (hsl.mono hle) hb
  have hsl2' := hsl2.mono hle
  have fin : ∀ μ3, μ'.Le μ3 → ¬ good b → i + 1 ≤ bs.length ∧ μ.Le μ3 ∧ ∀ (j : Nat) c, j < i + 1 → bs[j]? = some c → ¬ good c := fun μ3 hle3 hg => ⟨by omega, hle.trans hle3, fun j c hj hc => by
    rcases Nat.lt_or_ge j i with h6 | h6
    · exact hall j c h6 hc
    · obtain rfl : j = i := by omega
      rw [hb] at hc; cases hc; exact hg⟩
  refine elem_intro hel ?_
  intro r
  have no : ¬ (∃ x y, inst (T.var b.var).tm m = some x ∧ inst b.to.tm m = some y ∧ x ≠ y) → ¬ good b := id
  have yes : ∀ b ∈ bs, (∃ x y, inst (T.var b.var).tm m = some x ∧ inst b.to.tm m = some y ∧ x ≠ y) → Value.bool true = .bool (decide (disHolds (bs.map B.bd) m)) := fun b hb h => isT (hiff.2 ⟨b, hb, h⟩)
  have hwt : b.to.tm.d.wd := (D.wds_mem hw _ (mem_at (at_map (f := Bd.d) (l := bs.map B.bd) (j := i) (a := b.bd) (by simp [hb])))).2.1
  refine call_gives (l02Var_spec _) ?_
  refine call_plain (spec_Instantiate_spec (t := (T.var b.var).tm) (varV_rep b.var) (var_wd (hbs.vals.var b (mem_at hb))) hsl2' hw2) fun v1 μ1 hle1 hR1 => ?_
  obtain ⟨tv1, rfl, hf1⟩ := optV_rep hR1
  obtain ⟨p1, rfl⟩ := Tm.invV hf1
  intro r7
  refine call_plain (spec_Instantiate_spec (hto.mono hle1) hwt (hsl2'.mono hle1) hw2) fun v2 μ2 hle2 hR2 => ?_
  obtain ⟨tv2, rfl, hf2⟩ := optV_rep hR2
  obtain ⟨p2, rfl⟩ := Tm.invV hf2
  intro r9
  cases e1 : inst (T.var b.var).tm m with
  | none => exact if_intro (fun h => nomatch h) (fun _ => num64 (by omega) (by omega) ⟨(i + 1, μ2), fin μ2 (hle1.trans hle2) (no (by rintro ⟨x, y, k, _⟩; first | cases k | (rw [e1] at k; cases k))), by dsimp only; omega, ⟨⟨rfl, rfl, rfl, rfl, trivial⟩, trivial, rfl, rfl⟩⟩)
  | some x1 =>
    refine if_intro (fun _ => ?_) (fun h => nomatch h)
    cases e2 : inst b.to.tm m with
    | none => exact if_intro (fun h => nomatch h) (fun _ => num64 (by omega) (by omega) ⟨(i + 1, μ2), fin μ2 (hle1.trans hle2) (no (by rintro ⟨x, y, _, k, _⟩; first | cases k | (rw [e2] at k; cases k))), by dsimp only; omega, ⟨⟨rfl, rfl, rfl, rfl, trivial⟩, trivial, rfl, rfl⟩⟩)
    | some x2 =>
      refine if_intro (fun _ => ?_) (fun h => nomatch h)
      rw [e1] at hf1
      rw [e2] at hf2
      refine call_gives (l02Same_spec x1 x2 (hf1.mono hle2) hf2) ?_
      refine ifnd (fun h9 => ?_) (fun h9 => ?_)
      · exact ret_plain (yes b (mem_at hb) ⟨x1, x2, e1, e2, h9⟩)
      · exact num64 (by omega) (by omega) ⟨(i + 1, μ2), fin μ2 (hle1.trans hle2) (no (by rintro ⟨x, y, k1, k2, k3⟩; first | cases k1 | (rw [e1] at k1; cases k1); first | cases k2 | (rw [e2] at k2; cases k2); exact k3 h9)), by dsimp only; omega, ⟨⟨rfl, rfl, rfl, rfl, trivial⟩, trivial, rfl, rfl⟩⟩
end
end Go.Vx

/- Contracts: reified terms, both sides. -/
namespace Go.Vx
open Go.Proofs Classical
/-! ### Plain -/
theorem T.good_subst {f : Int → Option T} (hf : ∀ n y, f n = some y → y.good) : ∀ {x : T}, x.good → (x.subst f).good
  | .var n, h => by
    simp only [T.subst]
    cases e : f n with
    | none => exact h
    | some y => exact hf n y e
  | .pair a b, h => ⟨T.good_subst hf h.1, T.good_subst hf h.2⟩
  | .nil, h => h
  | .sym _, h => h
  | .num _, h => h
theorem T.good_wd : ∀ {x : T}, x.good → x.tm.d.wd
  | .nil, _ => by
    rw [T.d_eq]
    exact ⟨⟨show (-9223372036854775808 : Int) ≤ 0 by decide, show (0 : Int) ≤ 9223372036854775807 by decide⟩, ⟨show (-9223372036854775808 : Int) ≤ 0 by decide, show (0 : Int) ≤ 9223372036854775807 by decide⟩, Nat.zero_le _, trivial, trivial⟩
  | .var n, h => var_wd h
  | .sym s, h => by
    rw [T.d_eq]
    exact ⟨⟨show (-9223372036854775808 : Int) ≤ 2 by decide, show (2 : Int) ≤ 9223372036854775807 by decide⟩, ⟨show (-9223372036854775808 : Int) ≤ 0 by decide, show (0 : Int) ≤ 9223372036854775807 by decide⟩, Nat.le_trans h.2.1 (by decide), trivial, trivial⟩
  | .num n, h => by
    have h1 : -1000000000 ≤ n ∧ n ≤ 1000000000 := h
    rw [T.d_eq]
    exact ⟨⟨show (-9223372036854775808 : Int) ≤ 3 by decide, show (3 : Int) ≤ 9223372036854775807 by decide⟩, ⟨show _ ≤ n by omega, show n ≤ _ by omega⟩, Nat.zero_le _, trivial, trivial⟩
  | .pair a b, h => by
    rw [T.d_eq]
    exact ⟨⟨show (-9223372036854775808 : Int) ≤ 4 by decide, show (4 : Int) ≤ 9223372036854775807 by decide⟩, ⟨show (-9223372036854775808 : Int) ≤ 0 by decide, show (0 : Int) ≤ 9223372036854775807 by decide⟩, Nat.zero_le _, ⟨T.good_wd h.1, T.good_wd h.2, trivial⟩, trivial⟩
theorem goods_wd : ∀ {l : List T}, (∀ x ∈ l, x.good) → D.wds ((l.map T.tm).map Tm.d)
  | [], _ => trivial
  | x :: l, h => ⟨T.good_wd (h x (by simp)), goods_wd fun y hy => h y (by simp [hy])⟩
noncomputable def fits (bs : List B) (x : T) : Option T := fit (x.subst (sub bs))
theorem fits_ok {bs : List B} (hb : ∀ b ∈ bs, b.to.ok) {x y : T} (hx : x.good) (h : fits bs x = some y) : y.ok := by
  obtain ⟨h1, rfl⟩ := fit_some.1 h
  exact ⟨T.good_subst (fun n y h => (sub_ok hb h).1) hx, h1⟩
theorem mapM_ok {f : T → Option T} {P : T → Prop} : ∀ {xs ys : List T}, (∀ x ∈ xs, ∀ y, f x = some y → P y) → xs.mapM f = some ys → (∀ y ∈ ys, P y) ∧ ys.length = xs.length
  | [], ys, _, h => by
    simp at h; subst h; simp
  | x :: xs, ys, hf, h => by
    simp only [List.mapM_cons, bind, Option.bind_eq_some_iff, pure, Option.some.injEq] at h
    obtain ⟨y, h1, zs, h2, rfl⟩ := h
    have ih := mapM_ok (fun x hx => hf x (by simp [hx])) h2
    exact ⟨fun z hz => by
      rcases List.mem_cons.1 hz with rfl | hz
      · exact hf x (by simp) _ h1
      · exact ih.1 z hz, by simp [ih.2]⟩
theorem mapM_snoc {α β : Type} {f : α → Option β} : ∀ {xs : List α} {i : Nat} {x : α} {ys : List β}, xs[i]? = some x → (xs.take i).mapM f = some ys →
    (xs.take (i + 1)).mapM f = (f x).map (ys ++ [·]) ∧ (f x = none → xs.mapM f = none)
  | [], i, x, ys, h, _ => by simp at h
  | a :: xs, 0, x, ys, h, e => by
    simp at h; subst h
    simp at e; subst e
    refine ⟨?_, fun k => by simp [List.mapM_cons, k]⟩
    cases hfa : f a <;> simp [List.mapM_cons, hfa]
  | a :: xs, i + 1, x, ys, h, e => by
    simp only [List.getElem?_cons_succ] at h
    simp only [List.take_succ_cons, List.mapM_cons, bind, Option.bind_eq_some_iff, pure, Option.some.injEq] at e
    obtain ⟨y, h1, zs, h2, rfl⟩ := e
    have ih := mapM_snoc h h2
    refine ⟨?_, fun k => ?_⟩
    · simp only [List.take_succ_cons, List.mapM_cons, bind, pure] at ih ⊢
      rw [h1, ih.1]
      cases f x <;> simp
    · simp only [List.mapM_cons, bind]
      rw [ih.2 k]
      cases f a <;> rfl
noncomputable def reif (l : List Bd) (ts : List Tm) : Option (List T) := if substOk l ∧ ∀ t ∈ ts, t.Ok then ((ts.map Tm.toT).mapM (fits (l.map Bd.b))).map canon else none
theorem reif_eq {bs : List B} {xs : List T} (h : substOk (bs.map B.bd)) (hx : ∀ x ∈ xs, x.ok) : reif (bs.map B.bd) (xs.map T.tm) = (xs.mapM (fits bs)).map canon := by
  rw [reif, if_pos ⟨h, fun t ht => by
    obtain ⟨x, hx', rfl⟩ := List.mem_map.1 ht
    exact (hx x hx').tm⟩, B.map_b]
  have : (xs.map T.tm).map Tm.toT = xs := by
    rw [List.map_map]
    exact (List.map_congr_left fun x _ => T.toT_tm x).trans (List.map_id _)
  rw [this]
/-- Terms and whether they are some. -/
def optL (P : List T → Value → Prop) (o : Option (List T)) (v : Value) : Prop := match o with
  | some y => ∃ tv, v = .tuple #[tv, .bool true] ∧ P y tv
  | none => v = .tuple #[.slice none 0 0, .bool false]
def resL (o : Option (List T)) : List Tm := (o.getD []).map T.tm
theorem optL_rep {μ : Mem} {o : Option (List T)} {v : Value} (h : optL (fun y tv => RepV μ (.sl 4 ((y.map T.tm).map Tm.d)) tv) o v) : ∃ tv, v = .tuple #[tv, .bool o.isSome] ∧ RepV μ (.sl 4 ((resL o).map Tm.d)) tv := by
  cases o with
  | some y => obtain ⟨tv, rfl, h⟩ := h; exact ⟨tv, rfl, h⟩
  | none => exact ⟨_, h, none, 0, rfl, ⟨Nat.zero_le _, Nat.zero_le _⟩, by simp [resL], .inl rfl⟩
theorem optL_fresh {μ μ' : Mem} {o : Option (List T)} {v : Value} (h : optL (fun y tv => Fresh μ μ' (.sl 4 ((y.map T.tm).map Tm.d)) tv) o v) : ∃ tv, v = .tuple #[tv, .bool o.isSome] ∧ Fresh μ μ' (.sl 4 ((resL o).map Tm.d)) tv := by
  cases o with
  | some y => obtain ⟨tv, rfl, h⟩ := h; exact ⟨tv, rfl, h⟩
  | none => exact ⟨_, h, Mem.nil, ⟨none, 0, rfl, ⟨Nat.zero_le _, Nat.zero_le _⟩, by simp [resL], .inl ⟨rfl, rfl⟩⟩, (fun _ _ h => nomatch h), fun _ h => absurd rfl h⟩
theorem canon_size {xs : List T} (h : ∀ x ∈ xs, x.size ≤ 5000) : ∀ y ∈ canon xs, y.size ≤ 5000 := fun y hy => by
  obtain ⟨x, hx, rfl⟩ := List.mem_map.1 hy
  rw [T.subst_vars_size (canonF_size _)]
  exact h x hx
theorem reif_size (l : List Bd) (ts : List Tm) : (∀ t ∈ resL (reif l ts), t.cnt ≤ 5000) ∧ (resL (reif l ts)).length ≤ ts.length := by
  unfold reif
  split
  · cases h : (ts.map Tm.toT).mapM (fits (l.map Bd.b)) with
    | none => simp [resL]
    | some ys =>
      obtain ⟨h1, h2⟩ := mapM_ok (P := fun y => y.size ≤ 5000) (fun x _ y hy => by
        obtain ⟨k, rfl⟩ := fit_some.1 hy
        exact k) h
      refine ⟨fun t ht => ?_, ?_⟩
      · obtain ⟨y, hy, rfl⟩ := List.mem_map.1 ht
        rw [T.cnt_tm]
        exact canon_size h1 y hy
      · simp only [resL, Option.map_some, Option.getD_some, List.length_map, canon] at h2 ⊢
        omega
  · simp [resL]
theorem tms_cnt : ∀ l : List Tm, D.cnts (l.map Tm.d) ≤ 3 * l.length + 3 * D.szs (l.map Tm.d)
  | [] => by simp [D.cnts, D.szs]
  | t :: l => by
    have h1 := tms_cnt l
    have h2 := tm_cnt_sz t
    simp only [List.map_cons, D.cnts, D.szs, List.length_cons]; omega
theorem tms_cnt2 : ∀ l : List Tm, (∀ t ∈ l, t.cnt ≤ 5000) → D.cnts (l.map Tm.d) ≤ 15000 * l.length
  | [], _ => by simp [D.cnts]
  | t :: l, h => by
    have h1 := tms_cnt2 l fun t ht => h t (by simp [ht])
    have h2 := tm_cnt t
    have h3 := h t (by simp)
    simp only [List.map_cons, D.cnts, List.length_cons]; omega
section
variable {μ : Mem}
theorem l07Apply_spec {bs : List B} {xs : List T} {b1 b2 : Option Addr} {c1 c2 : Nat} (hsl : Sl μ 5 b1 bs.length ((bs.map B.bd).map Bd.d)) (hts : Sl μ 4 b2 xs.length ((xs.map T.tm).map Tm.d)) (hn : xs.length ≤ 10000000) :
    Spec Try.prog 87 [.slice b1 bs.length c1, .slice b2 xs.length c2] μ fun v μ' => optL (fun y tv => RepV μ' (.sl 4 ((y.map T.tm).map Tm.d)) tv) (xs.mapM (fits bs)) v := by
  refine Spec.mk Try.func87 (by kernel_rfl) ?_
  intro r13
  refine loop_intro (fun p : Nat × List T × Option Nat × Nat × List Value × Mem => p.1 ≤ xs.length ∧ μ.Le p.2.2.2.2.2 ∧ (xs.take p.1).mapM (fits bs) = some p.2.1 ∧ Rows p.2.2.2.2.2 4 ((p.2.1.map T.tm).map Tm.d) p.2.2.2.2.1)
    (fun (i, _, b, c, ys, μ') => ⟨[(0, .val (.slice b1 bs.length c1)), (6, .row 0 b ys.length c), (12, .val (.slice b2 xs.length c2)), (13, .val (.int .i64 xs.length)), (14, .val (.int .i64 i))], [(0, some (.row b c 30 4 ys))], 1, μ', Mem.nil⟩) (fun p => xs.length - p.1)
    (0, [], some r13, 0, [], μ) ⟨by simp, Mem.Le.refl _, by simp, .nil⟩ (fun (_, _, _, _, _, _) => ⟨rfl, rfl⟩) ⟨⟨rfl, rfl, rfl, rfl, rfl, trivial⟩, ⟨rfl, trivial⟩, rfl, rfl⟩ ?_
  rintro ⟨i, zs, b, c, ys, μ'⟩ ⟨hi, hle, hmap, hrows⟩
  dsimp only at hi hle hmap hrows
  have hlen := hrows.len
  have hzl := (mapM_ok (P := fun _ => True) (fun _ _ _ _ => trivial) hmap).2
  simp only [List.length_map, List.length_take] at hlen hzl
  refine ifd (fun h => ?_) (fun h => ?_)
  · obtain ⟨x, hx'⟩ := at_some (l := xs) (i := i) (by omega)
    obtain ⟨ad, p, hel, hto⟩ := Tm.elem (i := i) (t := x.tm) (hts.mono hle) (by simp [hx'])
    obtain ⟨hs1, hs2⟩ := mapM_snoc hx' hmap
    refine elem_intro hel ?_
    intro r
    refine call_plain (l04Apply_spec x (hsl.mono hle) hto) fun v3 μ3 hle3 hR3 => ?_
    obtain ⟨tv, rfl, hR3⟩ := hR3
    obtain ⟨q, rfl⟩ := Tm.invV hR3
    intro r5
    refine ifnd (fun h => ret_plain (by rw [hs2 (by rw [fits, fit, if_neg h])]; rfl)) (fun h3 => ?_)
    rw [fits, fit, if_pos h3] at hs1
    intro r6
    refine grow_intro ?_ ?_ fun b' c' _ => ?_
    · show (ys.length + 1) * 56 ≤ _; omega
    · exact Nat.le_trans (m := 100000000) (show ys.length + 1 ≤ _ by omega) (by decide)
    refine num64 (by omega) (by omega) ⟨(i + 1, zs ++ [x.subst (sub bs)], b', c', _, μ3), ⟨by dsimp only; omega, hle.trans hle3, hs1, ?_⟩, by dsimp only; omega, ⟨⟨rfl, rfl, rfl, rfl, rfl, trivial⟩, ⟨rfl, trivial⟩, rfl, rfl⟩⟩
    dsimp only
    simp only [List.map_append, List.map_cons, List.map_nil]
    exact (hrows.mono hle3).append (Rows.one hR3 (Tm.d_n _))
  · obtain rfl : i = xs.length := by omega
    rw [List.take_length] at hmap
    refine ret_frz [0] fun μ' hle' hno hrow => .inl ?_
    rw [hmap]
    exact ⟨_, rfl, Rows.sl hrow (hrows.mono hle') (Nat.le_trans (m := 100000000) (by omega) (by decide))⟩
theorem spec_Reify_spec {l : List Bd} {ts : List Tm} {b1 b2 : Option Addr} {c1 c2 : Nat} (hsl : Sl μ 5 b1 l.length (l.map Bd.d)) (hwl : D.wds (l.map Bd.d)) (hts : Sl μ 4 b2 ts.length (ts.map Tm.d)) (hwt : D.wds (ts.map Tm.d)) (hn : ts.length ≤ 10000000) :
    Spec Try.prog 27 [.slice b1 l.length c1, .slice b2 ts.length c2] μ fun v μ' => optL (fun y tv => RepV μ' (.sl 4 ((y.map T.tm).map Tm.d)) tv) (reif l ts) v := by
  refine Spec.mk Try.func27 (by kernel_rfl) ?_
  refine call_gives (spec_SubstOk_spec hsl hwl) ?_
  refine ifnd (fun h => ret_plain (by rw [reif, if_neg fun k => h k.1]; rfl)) (fun h1 => ?_)
  refine call_gives (l02AllOk_spec hts hwt) ?_
  refine ifnd (fun h => ret_plain (by rw [reif, if_neg fun k => h k.2]; rfl)) (fun h2 => ?_)
  obtain ⟨xs, rfl, hxs⟩ := lift_ok h2
  obtain ⟨bs, rfl, hbs⟩ := h1.subst
  rw [reif_eq h1 hxs]
  simp only [List.length_map] at hsl hts hn ⊢
  refine call_plain (l07Apply_spec hsl hts hn) fun v1 μ1 hle1 hR => ?_
  cases e : xs.mapM (fits bs) with
  | none =>
    rw [e] at hR
    obtain rfl := hR
    exact if_intro (fun _ => ret_plain rfl) (fun h => absurd h (by simp))
  | some ys =>
    rw [e] at hR
    obtain ⟨tv, rfl, hR⟩ := hR
    obtain ⟨hok, hyl⟩ := mapM_ok (P := T.ok) (fun x hx y hy => fits_ok hbs.vals.tok (hxs x hx).1 hy) e
    obtain ⟨bb, cc, rfl, hs1⟩ := Rep.sl hR
    rw [List.length_map, List.length_map] at hs1 ⊢
    refine if_intro (fun h => absurd h (by simp)) (fun _ => ?_)
    refine call_plain (spec_Canonical_spec hs1 (goods_wd fun x hx => (hok x hx).1) hok (by omega)) fun v2 μ2 hle2 hR2 => ?_
    exact ret_plain ⟨_, rfl, hR2⟩
theorem impl_Reify_spec {l : List Bd} {ts : List Tm} {b1 b2 : Option Addr} {c1 c2 : Nat} (hsl : Sl μ 5 b1 l.length (l.map Bd.d)) (hts : Sl μ 4 b2 ts.length (ts.map Tm.d)) (hn : ts.length ≤ 10000000) :
    Spec Try.prog 29 [.slice b1 l.length c1, .slice b2 ts.length c2] μ fun v μ' => optL (fun y tv => Fresh μ μ' (.sl 4 ((y.map T.tm).map Tm.d)) tv) (reif l ts) v := by
  refine Spec.mk Try.func29 (by kernel_rfl) ?_
  refine call_gives (impl_SubstOk_spec hsl) ?_
  refine ifnd (fun h => ret_plain (by rw [reif, if_neg fun k => h k.1]; rfl)) (fun h1 => ?_)
  refine call_gives (termsOk_spec hts) ?_
  refine ifnd (fun h => ret_plain (by rw [reif, if_neg fun k => h k.2]; rfl)) (fun h2 => ?_)
  obtain ⟨xs, rfl, hxs⟩ := lift_ok h2
  obtain ⟨bs, rfl, hbs⟩ := h1.subst
  have hbl := hbs.vals.len
  rw [reif_eq h1 hxs]
  simp only [List.length_map] at hsl hts hn ⊢
  intro r19
  refine loop_intro (fun p : Nat × List T × Option Nat × Nat × List Value × Mem => p.1 ≤ xs.length ∧ μ.Le p.2.2.2.2.2 ∧ (xs.take p.1).mapM (fits bs) = some p.2.1 ∧ Rows p.2.2.2.2.2 4 ((p.2.1.map T.tm).map Tm.d) p.2.2.2.2.1)
    (fun (i, _, b, c, ys, μ') => ⟨[(0, .val (.slice b1 bs.length c1)), (6, .row 0 b ys.length c), (20, .val (.slice b2 xs.length c2)), (21, .val (.int .i64 xs.length)), (22, .val (.int .i64 i))], [(0, some (.row b c 30 4 ys))], 1, μ', Mem.nil⟩) (fun p => xs.length - p.1)
    (0, [], some r19, 0, [], μ) ⟨by simp, Mem.Le.refl _, by simp, .nil⟩ (fun (_, _, _, _, _, _) => ⟨rfl, rfl⟩) ⟨⟨rfl, rfl, rfl, rfl, rfl, trivial⟩, ⟨rfl, trivial⟩, rfl, rfl⟩ ?_
  rintro ⟨i, zs, b, c, ys, μ'⟩ ⟨hi, hle, hmap, hrows⟩
  dsimp only at hi hle hmap hrows
  have hlen := hrows.len
  have hzl := (mapM_ok (P := fun _ => True) (fun _ _ _ _ => trivial) hmap).2
  simp only [List.length_map, List.length_take] at hlen hzl
  refine ifd (fun h => ?_) (fun h => ?_)
  · obtain ⟨x, hx'⟩ := at_some (l := xs) (i := i) (by omega)
    obtain ⟨ad, p, hel, hto⟩ := Tm.elem (i := i) (t := x.tm) (hts.mono hle) (by simp [hx'])
    obtain ⟨hs1, hs2⟩ := mapM_snoc hx' hmap
    refine elem_intro hel ?_
    intro r
    refine call_plain (put_spec x hbs.vals.srt (by omega) hbs.vals.tok (hsl.mono hle) hto) fun v3 μ3 hle3 hR3 => ?_
    cases e : fits bs x with
    | none =>
      have e' : fit (x.subst (sub bs)) = none := e
      rw [e'] at hR3
      obtain rfl := hR3
      intro r5
      refine if_intro (fun _ => ?_) (fun h => absurd h (by simp))
      exact ret_plain (by rw [hs2 e]; rfl)
    | some y =>
      have e' : fit (x.subst (sub bs)) = some y := e
      rw [e'] at hR3
      obtain ⟨tv, rfl, hR3⟩ := hR3
      obtain ⟨q, rfl⟩ := Tm.invV hR3.rep
      rw [e] at hs1
      intro r5
      refine if_intro (fun h => absurd h (by simp)) (fun _ => ?_)
      intro r6
      refine grow_intro ?_ ?_ fun b' c' _ => ?_
      · show (ys.length + 1) * 56 ≤ _; omega
      · exact Nat.le_trans (m := 100000000) (show ys.length + 1 ≤ _ by omega) (by decide)
      refine num64 (by omega) (by omega) ⟨(i + 1, zs ++ [y], b', c', _, μ3), ⟨by dsimp only; omega, hle.trans hle3, hs1, ?_⟩, by dsimp only; omega, ⟨⟨rfl, rfl, rfl, rfl, rfl, trivial⟩, ⟨rfl, trivial⟩, rfl, rfl⟩⟩
      dsimp only
      simp only [List.map_append, List.map_cons, List.map_nil]
      exact (hrows.mono hle3).append (Rows.one hR3.rep (Tm.d_n _))
  · obtain rfl : i = xs.length := by omega
    rw [List.take_length] at hmap
    simp only [Nat.min_self] at hzl
    rw [hmap]
    obtain ⟨hok, hyl⟩ := mapM_ok (P := T.ok) (fun x hx y hy => fits_ok hbs.vals.tok (hxs x hx).1 hy) hmap
    refine call_frz [0] ?_
    intro μ1 hle1 hno1 hrow
    have hyl2 : ys.length = zs.length := by omega
    have hR := Rows.sl hrow (hrows.mono hle1) (Nat.le_trans (m := 100000000) (by omega) (by decide))
    obtain ⟨bb, cc, e1, hs1⟩ := Rep.sl hR
    rw [List.length_map, List.length_map] at hs1 e1
    rw [e1]
    refine call_go (impl_Canonical_spec (cap := cc) hs1 hok (by omega)) fun v2 μ2 hle2 hR2 => ?_
    exact ret_plain ⟨_, rfl, hR2.mono (hle.trans hle1) (Mem.Le.refl _)⟩
end
end Go.Vx

/- The law on reified terms. -/
namespace Go.Vx
open Go.Proofs Classical
section
variable {μ : Mem}
set_option maxHeartbeats 4000000 in
theorem FnExactReify_spec {t0 : List Bd} {v0 : Value} {t1 : List Tm} {v1 : Value} (h0 : RepV μ (.sl 5 (t0.map Bd.d)) v0) (h1 : RepV μ (.sl 4 (t1.map Tm.d)) v1) (w0 : D.wds (t0.map Bd.d)) (w1 : D.wds (t1.map Tm.d)) :
    Spec Try.prog 5 [v0, v1] μ fun r _ => r = .bool true := by
  obtain ⟨b0, c0, rfl, s0⟩ := Rep.sl h0
  rw [List.length_map] at s0 ⊢
  obtain ⟨b1, c1, rfl, s1⟩ := Rep.sl h1
  rw [List.length_map] at s1 ⊢
  refine Spec.mk Try.func5 (by kernel_rfl) ?_
  refine call_gives (szBindingS_spec s0 (by omega) (by omega) w0) ?_
  refine ifd (fun h => ret_plain rfl) (fun h => ?_)
  have q0 := szR_ge h
  rw [szR_pos q0] at h ⊢
  refine call_gives (szTermS_spec s1 (by omega) (by omega) w1) ?_
  refine ifd (fun h => ret_plain rfl) (fun h => ?_)
  have q1 := szR_ge h
  rw [szR_pos q1] at h
  have hb0 : t0.length + D.szs (t0.map Bd.d) ≤ 1048576 := by omega
  have hb1 : t1.length + D.szs (t1.map Tm.d) ≤ 1048576 := by omega
  refine call_plain (toBindingS_spec s0 hb0) fun u1 μ1 hle1 hf1 => ?_
  replace s0 := s0.mono hle1
  replace s1 := s1.mono hle1
  obtain ⟨bb2, cc2, rfl, a0⟩ := Rep.sl hf1.rep
  rw [List.length_map] at a0 ⊢
  refine call_plain (toTermS_spec s1 hb1) fun u3 μ3 hle3 hf3 => ?_
  replace s0 := s0.mono hle3
  replace s1 := s1.mono hle3
  replace a0 := a0.mono hle3
  obtain ⟨bb4, cc4, rfl, a1⟩ := Rep.sl hf3.rep
  rw [List.length_map] at a1 ⊢
  refine call_plain (spec_Reify_spec a0 w0 a1 w1 (by omega)) fun u5 μ5 hle5 hR => ?_
  replace s0 := s0.mono hle5
  replace s1 := s1.mono hle5
  replace a0 := a0.mono hle5
  replace a1 := a1.mono hle5
  obtain ⟨w0, rfl, hw0⟩ := optL_rep hR
  obtain ⟨bb6, cc6, rfl, hw⟩ := Rep.sl hw0
  rw [List.length_map] at hw ⊢
  refine call_new id (apart_nil _) Owns.none ((toBindingS_spec (s0.mono (Mem.le_join _ _)) hb0).weaken fun v μ' _ h => ⟨v, rfl, h⟩) fun x0 μ7 H7 hle7 hap7 ho7 => ?_
  replace s0 := s0.mono hle7
  replace s1 := s1.mono hle7
  replace hw := hw.mono hle7
  obtain ⟨bb8, cc8, rfl, xx0⟩ := Rep.sl (Owns.rep (l1 := []) hap7 ho7)
  rw [List.length_map] at xx0 ho7 ⊢
  refine call_new id hap7 ho7 ((toTermS_spec (s1.mono (Mem.le_join _ _)) hb1).weaken fun v μ' _ h => ⟨v, rfl, h⟩) fun x1 μ9 H9 hle9 hap9 ho9 => ?_
  replace s0 := s0.mono hle9
  replace s1 := s1.mono hle9
  replace hw := hw.mono hle9
  obtain ⟨bb10, cc10, rfl, xx1⟩ := Rep.sl (Owns.rep (l1 := [_]) hap9 ho9)
  rw [List.length_map] at xx1 ho9 ⊢
  obtain ⟨bn13, cn13, en13, ya12⟩ := Rep.sl (Owns.rep (l1 := []) hap9 ho9)
  rw [List.length_map] at ya12 en13
  obtain ⟨rfl, _, rfl⟩ := Value.slice.inj en13
  obtain ⟨bn15, cn15, en15, ya14⟩ := Rep.sl (Owns.rep (l1 := [_]) hap9 ho9)
  rw [List.length_map] at ya14 en15
  obtain ⟨rfl, _, rfl⟩ := Value.slice.inj en15
  refine call_new (fun gv => .tuple #[gv, .bool (reif t0 t1).isSome]) hap9 ho9 ((impl_Reify_spec ya12 ya14 (by omega)).weaken fun v μ' _ h => optL_fresh h) fun g0 μ11 H11 hle11 hap11 ho11 => ?_
  replace s0 := s0.mono hle11
  replace s1 := s1.mono hle11
  replace hw := hw.mono hle11
  obtain ⟨bb16, cc16, rfl, gg⟩ := Rep.sl (Owns.rep (l1 := [_, _]) hap11 ho11)
  rw [List.length_map] at gg ho11 ⊢
  obtain ⟨bn18, cn18, en18, yg17⟩ := Rep.sl (Owns.rep (l1 := [_, _]) hap11 ho11)
  rw [List.length_map] at yg17 en18
  obtain ⟨rfl, _, rfl⟩ := Value.slice.inj en18
  refine call_read hap11 (eqTermS_spec yg17 (hw.mono (Mem.le_join _ _))) ?_
  refine if_intro (fun h => nomatch h) (fun _ => ?_)
  refine if_intro (fun h => absurd h (by simp)) (fun _ => ?_)
  refine call_data hap11 (toBindingS_spec s0 hb0) fun u19 μ19 hle19 hap19 hf19 => ?_
  replace s0 := s0.mono hle19
  replace s1 := s1.mono hle19
  replace hw := hw.mono hle19
  obtain ⟨bb20, cc20, rfl, z0⟩ := Rep.sl hf19.rep
  rw [List.length_map] at z0 ⊢
  obtain ⟨bn22, cn22, en22, yb21⟩ := Rep.sl (Owns.rep (l1 := []) hap19 ho11)
  rw [List.length_map] at yb21 en22
  obtain ⟨rfl, _, rfl⟩ := Value.slice.inj en22
  refine call_read hap19 (eqBindingS_spec yb21 (z0.mono (Mem.le_join _ _))) ?_
  refine if_intro (fun h => nomatch h) (fun _ => ?_)
  refine call_data hap19 (toTermS_spec s1 hb1) fun u23 μ23 hle23 hap23 hf23 => ?_
  replace s0 := s0.mono hle23
  replace s1 := s1.mono hle23
  replace hw := hw.mono hle23
  obtain ⟨bb24, cc24, rfl, z1⟩ := Rep.sl hf23.rep
  rw [List.length_map] at z1 ⊢
  obtain ⟨bn26, cn26, en26, yb25⟩ := Rep.sl (Owns.rep (l1 := [_]) hap23 ho11)
  rw [List.length_map] at yb25 en26
  obtain ⟨rfl, _, rfl⟩ := Value.slice.inj en26
  refine call_read hap23 (eqTermS_spec yb25 (z1.mono (Mem.le_join _ _))) ?_
  refine if_intro (fun h => nomatch h) (fun _ => ?_)
  have ca0 := bds_cnt t0
  have ma0 := D.mks_cnt (t0.map Bd.d) (1)
  have ca1 := tms_cnt t1
  have ma1 := D.mks_cnt (t1.map Tm.d) ((D.mks (t0.map Bd.d) (1)).2)
  have rz := reif_size t0 t1
  have cg := tms_cnt2 _ rz.1
  have cg2 := rz.2
  have mg := D.mks_cnt ((resL (reif t0 t1)).map Tm.d) 1
  refine call_mark (l1 := []) hap23 ho11 (fun hx o => markBindingS_spec o (by omega) (by omega)) fun H27 hap27 ho27 => ?_
  refine call_mark (l1 := [_]) hap27 ho27 (fun hx o => markTermS_spec o (by omega) (by omega)) fun H28 hap28 ho28 => ?_
  refine ifd (fun h => by omega) (fun _ => ?_)
  obtain ⟨bn30, cn30, en30, yg29⟩ := Rep.sl (Owns.rep (l1 := [_, _]) hap28 ho28)
  rw [List.length_map] at yg29 en30
  obtain ⟨rfl, _, rfl⟩ := Value.slice.inj en30
  refine call_read hap28 (eqTermS_spec yg29 (hw.mono (Mem.le_join _ _))) ?_
  refine if_intro (fun h => nomatch h) (fun _ => ?_)
  refine if_intro (fun h => absurd h (by simp)) (fun _ => ?_)
  refine call_mark (l1 := [_, _]) hap28 ho28 (fun hx o => markTermS_spec o (by omega) (by omega)) fun H31 hap31 ho31 => ?_
  refine call_read hap31 (heldTermS_spec (Owns.rep (l1 := [_, _]) hap31 ho31) (by omega) (by omega)) ?_
  refine ifd (fun h => by omega) (fun _ => ?_)
  refine ifnd (fun h => absurd rfl h) (fun _ => ?_)
  refine call_data hap31 (toBindingS_spec s0 hb0) fun u32 μ32 hle32 hap32 hf32 => ?_
  replace s0 := s0.mono hle32
  replace s1 := s1.mono hle32
  replace hw := hw.mono hle32
  obtain ⟨bb33, cc33, rfl, o0⟩ := Rep.sl hf32.rep
  rw [List.length_map] at o0 ⊢
  refine call_data hap32 (toTermS_spec s1 hb1) fun u34 μ34 hle34 hap34 hf34 => ?_
  replace s0 := s0.mono hle34
  replace s1 := s1.mono hle34
  replace hw := hw.mono hle34
  replace o0 := o0.mono hle34
  obtain ⟨bb35, cc35, rfl, o1⟩ := Rep.sl hf34.rep
  rw [List.length_map] at o1 ⊢
  refine call_data hap34 ((impl_Reify_spec o0 o1 (by omega)).weaken fun v μ' _ h => optL_fresh h) fun u36 μ36 hle36 hap36 hR => ?_
  replace s0 := s0.mono hle36
  replace s1 := s1.mono hle36
  replace hw := hw.mono hle36
  replace o0 := o0.mono hle36
  replace o1 := o1.mono hle36
  obtain ⟨h0, rfl, hh0⟩ := hR
  obtain ⟨bb37, cc37, rfl, hh⟩ := Rep.sl hh0.rep
  rw [List.length_map] at hh ⊢
  refine call_read hap36 (eqTermS_spec (hh.mono (Mem.le_join _ _)) (hw.mono (Mem.le_join _ _))) ?_
  refine if_intro (fun h => nomatch h) (fun _ => ?_)
  refine if_intro (fun h => absurd h (by simp)) (fun _ => ?_)
  refine call_read hap36 (heldTermS_spec (Owns.rep (l1 := [_, _]) hap36 ho31) (by omega) (by omega)) ?_
  refine ifd (fun h => by omega) (fun _ => ?_)
  refine ifnd (fun h => absurd rfl h) (fun _ => ?_)
  exact ret_plain rfl
end
end Go.Vx
