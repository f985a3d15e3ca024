/- Texts of the proof, part M3. -/
import Derived.Sort.AssemblyPlain
import Derived.Test.YteomklpfifepdaaM2
namespace Go.Vx
open Go.Proofs Classical
def Srt (bs : List B) : Prop := ∀ (i j : Nat) b c, i < j → bs[i]? = some b → bs[j]? = some c → b.var < c.var
section
variable {μ : Mem}
theorem B.elem {bs : List B} {base : Option Addr} {n : Nat} (h : Sl μ 5 base n ((bs.map B.bd).map Bd.d)) {i : Nat} {b : B} (hb : bs[i]? = some b) : ∃ ad, ∃ p : Option Addr × Nat, ElemAt μ base n 5 i ad (b.bd.cs p) ∧ RepV μ b.to.tm.d (.agg (b.to.tm.cs p).toArray) := by
 have hb' : (bs.map B.bd)[i]? = some b.bd := by simp [hb]
 have w_ := Bd.elem h hb'
 obtain ⟨ad, p, h1, h2⟩ := w_
 exact ⟨ad, p, h1, Bd.toV h2⟩
def atLeast (bs : List B) (n : Int) (z : Int) : Prop := ∃ b, bs[z.toNat]? = some b ∧ n ≤ b.var
theorem find1_spec {bs : List B} {base : Option Addr} {cap : Nat} {n : Int} {r1 r2 : Nat} {t1 t2 : TypeId} (hsl : Sl μ 5 base bs.length ((bs.map B.bd).map Bd.d)) (h1 : μ r1 = some (.cells #[.slice base bs.length cap] t1 (0, 0))) (h2 : μ r2 = some (.cells #[.int .i64 n] t2 (0, 0))) {i : Nat} (hi : i < bs.length) :
  Gives Try.prog 111 [.int .i64 i, .pointer (some ⟨r1, 0, none⟩), .pointer (some ⟨r2, 0, none⟩)] μ (.bool (decide (atLeast bs n i))) := by
 have w_ := aSo hi
 obtain ⟨b, hb⟩ := w_
 have w_ := B.elem hsl hb
 obtain ⟨ad, p, hel, _⟩ := w_
 refine Spec.mk Try.func111 (by kernel_rfl) ?_
 refine ext_intro [.slice base bs.length cap] rfl (box_at h1) ?_
 refine eIn hel ?_
 refine ext_intro [.int .i64 n] rfl (box_at h2) ?_
 refine rGv (isI ?_) rfl
 constructor
 ·intro h; exact ⟨b, hb, h⟩
 ·rintro ⟨c, hc, h⟩
  have hc : bs[i]? = some c := hc
  rw [hb] at hc; cases hc; exact h
def FindR (bs : List B) (n : Int) (v : Value) : Prop := (∃ (i : Nat) (b : B), v = .int .i64 i ∧ bs[i]? = some b ∧ b.var = n) ∨ (v = .int .i64 (-1) ∧ ∀ b ∈ bs, b.var ≠ n)
theorem find_spec {bs : List B} {base : Option Addr} {cap : Nat} {n : Int} (hs : Srt bs) (hlen : bs.length ≤ 1000000000) (hsl : Sl μ 5 base bs.length ((bs.map B.bd).map Bd.d)) :
  Spec Try.prog 65 [.slice base bs.length cap, .int .i64 n] μ fun v μ' => FindR bs n v ∧ μ' = μ := by
 refine Spec.forget (Spec.mk Try.func65 (by kernel_rfl) ?_)
 intro r1 r2
 refine call_frz [0, 1] ?_
 intro μ1 hle1 hno1 hat1 μ2 hle2 hno2 hat2
 have hsl2 := (hsl.mono hle1).mono hle2
 have e1 : μ2 r1 = some (.cells #[.slice base bs.length cap] 23 (0, 0)) := hle2 _ _ hat1
 refine call_go (Search_spec (p := atLeast bs n) hlen fun i hi => find1_spec hsl2 e1 hat2 hi) fun v μ3 hle3 hR => ?_
 obtain ⟨⟨i, rfl, g1, g2, g3⟩, rfl⟩ := hR
 have low : ∀ (j : Nat) b, j < i → bs[j]? = some b → b.var < n := fun j b hj hb => by
  have w_ := aSo (l := bs) (i := i - 1) (by omega)
  obtain ⟨c, hc⟩ := w_
  have h4 : c.var < n := by
   rcases Int.lt_or_le c.var n with h | h
   ·exact h
   ·exact absurd ⟨c, hc, h⟩ (g3 (i - 1) (by omega))
  rcases Nat.lt_or_ge j (i - 1) with h | h
  ·have := hs j (i - 1) b c h hb hc; omega
  ·obtain rfl : j = i - 1 := by omega
   rw [hb] at hc; cases hc; exact h4
 have none : (∀ b, bs[i]? = some b → b.var ≠ n) → FindR bs n (.int .i64 (-1)) := fun h => .inr ⟨rfl, fun b hb => by
  have w_ := List.mem_iff_getElem?.1 hb
  obtain ⟨j, hj⟩ := w_
  rcases Nat.lt_or_ge j i with h1 | h1
  ·have := low j b h1 hj; omega
  ·have hjl := (List.getElem?_eq_some_iff.1 hj).1
   have w_ := aSo (l := bs) (i := i) (by omega)
   obtain ⟨c, hc⟩ := w_
   have w_ := g2 (by omega)
   obtain ⟨c', hc', h2⟩ := w_
   have hc' : bs[i]? = some c' := hc'
   rw [hc] at hc'; cases hc'
   have := h c hc
   rcases Nat.eq_or_lt_of_le h1 with h3 | h3
   ·subst h3; rw [hj] at hc; cases hc; omega
   ·have := hs i j c b h3 hc hj; omega⟩
 refine ext_intro [.slice base bs.length cap] rfl (box_at e1) ?_
 refine ifd (fun h => ?_) (fun h => ?_)
 ·have w_ := aSo (l := bs) (i := i) (by omega)
  obtain ⟨b, hb⟩ := w_
  have w_ := B.elem hsl2 hb
  obtain ⟨ad, p, hel, _⟩ := w_
  refine ext_intro [.slice base bs.length cap] rfl (box_at e1) ?_
  refine eIn hel ?_
  refine ext_intro [.int .i64 n] rfl (box_at hat2) ?_
  refine ifd (fun h2 => ?_) (fun h2 => ?_)
  ·exact rPl (.inl ⟨i, b, rfl, hb, h2⟩)
  ·exact rPl (none fun c hc => by rw [hb] at hc; cases hc; exact h2)
 ·exact rPl (none fun c hc => absurd (List.getElem?_eq_some_iff.1 hc).1 (by omega))
end
end Go.Vx
namespace Go.Vx
open Go.Proofs Classical
theorem Srt.tail {b : B} {bs : List B} (h : Srt (b :: bs)) : Srt bs := fun i j c d hij hc hd => h (i + 1) (j + 1) c d (by omega) (by simpa using hc) (by simpa using hd)
theorem sub_some : ∀ {bs : List B} (_ : Srt bs) {i : Nat} {b : B} {n : Int}, bs[i]? = some b → b.var = n → sub bs n = some b.to
 | [], _, i, b, n, h, _ => by simp at h
 | c :: bs, hs, 0, b, n, h, e => by
  simp only [List.getElem?_cons_zero, Option.some.injEq] at h
  subst h
  rw [sub, if_pos e]
 | c :: bs, hs, i + 1, b, n, h, e => by
  have := hs 0 (i + 1) c b (by omega) rfl h
  rw [sub, if_neg (by omega)]
  exact sub_some hs.tail (by simpa using h) e
theorem sub_none : ∀ {bs : List B} {n : Int}, (∀ b ∈ bs, b.var ≠ n) → sub bs n = none
 | [], _, _ => rfl
 | c :: bs, n, h => by
  rw [sub, if_neg (h c (by simp))]
  exact sub_none fun b hb => h b (by simp [hb])
theorem sub_ok : ∀ {bs : List B} (_ : ∀ b ∈ bs, b.to.ok) {n : Int} {y : T}, sub bs n = some y → y.ok
 | [], _, n, y, h => by simp [sub] at h
 | c :: bs, hk, n, y, h => by
  rw [sub] at h
  split at h
  ·cases h; exact hk c (by simp)
  ·exact sub_ok (fun b hb => hk b (by simp [hb])) h
theorem valsOk.srt {l : List Bd} (h : valsOk l) : Srt (l.map Bd.b) := by
 intro i j b c hij hb hc
 simp only [List.getElem?_map, Option.map_eq_some_iff] at hb hc
 obtain ⟨b, hb, rfl⟩ := hb
 obtain ⟨c, hc, rfl⟩ := hc
 show b.var < c.var
 induction j generalizing c with
 | zero => omega
 | succ j ih =>
  have hj : j < l.length := by have := (List.getElem?_eq_some_iff.1 hc).1; omega
  have w_ := aSo hj
  obtain ⟨d, hd⟩ := w_
  have h1 := (h.2 (j + 1) c hc).2.2 j d rfl hd
  rcases Nat.lt_or_ge i j with h2 | h2
  ·have := ih h2 d hd; omega
  ·obtain rfl : i = j := by omega
   rw [hb] at hd; cases hd; exact h1
section
variable {μ : Mem}
theorem put1_looks {bs : List B} {base : Option Addr} {cap : Nat} {r : Nat} {ty : TypeId} (hs : Srt bs) (hlen : bs.length ≤ 1000000000) (hsl : Sl μ 5 base bs.length ((bs.map B.bd).map Bd.d)) (h : μ r = some (.cells #[.slice base bs.length cap] ty (0, 0))) :
  Looks 119 [.pointer (some ⟨r, 0, none⟩)] μ (sub bs) := fun μ' hle n => by
 have hsl := hsl.mono hle
 have h : μ' r = _ := hle _ _ h
 refine Spec.mk Try.func119 (by kernel_rfl) ?_
 intro r1
 refine ext_intro [.slice base bs.length cap] rfl (box_at h) ?_
 refine cPl (find_spec hs hlen hsl) fun v μ2 hle2 hR => ?_
 obtain ⟨hR, e2⟩ := hR
 obtain rfl := e2.symm
 rcases hR with ⟨i, b, rfl, hb, hn⟩ | ⟨rfl, hno⟩
 ·rw [sub_some hs hb hn]
  have w_ := B.elem hsl hb
  obtain ⟨ad, p, hel, hto⟩ := w_
  refine ifd (fun _ => ?_) (fun h => absurd h (by omega))
  refine ext_intro [.slice base bs.length cap] rfl (box_at h) ?_
  refine eIn hel ?_
  exact rPl ⟨_, rfl, hto⟩
 ·rw [sub_none hno]
  refine ifd (fun h => absurd h (by omega)) (fun _ => ?_)
  exact rPl rfl
theorem replaced1_counts {Q : Int → Prop} {k : FuncId} {caps : List Value} {f : Int → Option T} {r : Nat} {ty : TypeId} (hk : LooksOn Q k caps μ f) (hf : ∀ n y, Q n → f n = some y → y.ok) (h : μ r = some (.cells #[.func (.func k) #[] caps.toArray] ty (0, 0))) :
  CountsOn Q 149 [.pointer (some ⟨r, 0, none⟩)] μ (cntOf f) := fun n hq => by
 refine (Spec.forget (R := fun v => v = .int .i64 (cntOf f n)) (Spec.mk Try.func149 (by kernel_rfl) ?_))
 refine ext_intro [.func (.func k) #[] caps.toArray] rfl (box_at h) ?_
 refine cPl (hk μ (Mem.Le.refl μ) n hq) fun v μ1 hle1 hR => ?_
 simp only [cntOf]
 cases hs : f n with
 | some y =>
  rw [hs] at hR
  obtain ⟨tv, rfl, htv⟩ := hR
  have w_ := Tm.invV htv
  obtain ⟨q, rfl⟩ := w_
  intro r3
  refine iIn (fun _ => ?_) (fun h => nomatch h)
  refine cGv (nodesOf_spec y.tm htv (by decide) (by decide)) ?_
  have hy := (hf n y hq hs).tm
  rw [Tm.nodes_pos hy.1 (by have := hy.2; omega), T.cnt_tm]
  exact rPl rfl
 | none =>
  rw [hs] at hR
  obtain rfl := hR
  intro r3
  refine iIn (fun h => nomatch h) (fun _ => ?_)
  exact rPl rfl
noncomputable def fit (x : T) : Option T := if x.size ≤ 5000 then some x else none
theorem replaced_specQ {Q : Int → Prop} {k : FuncId} {caps : List Value} {f : Int → Option T} (x : T) {v : Value} (hQ : ∀ n ∈ x.vars, Q n) (hk : LooksOn Q k caps μ f) (hf : ∀ n y, Q n → f n = some y → y.ok) (hv : RepV μ x.tm.d v) :
  Spec Try.prog 118 [v, .func (.func k) #[] caps.toArray] μ fun v μ' => optV (fun y tv => Fresh μ μ' y.tm.d tv) (fit (x.subst f)) v := by
 have w_ := Tm.invV hv
 obtain ⟨p, rfl⟩ := w_
 have hc : ∀ n, Q n → cntOf f n ≤ 5000 := fun n hq => by
  simp only [cntOf]
  split
  ·rename_i y hy
   exact (hf n y hq hy).2
  ·omega
 refine Spec.mk Try.func118 (by kernel_rfl) ?_
 intro r1 r2 r3
 refine call_frz [1] ?_
 intro μ1 hle1 hno1 hat1
 have hk1 : LooksOn Q k caps μ1 f := fun μ' h => hk μ' (hle1.trans h)
 refine call_go (sizeWith_specQ (replaced1_counts hk1 hf hat1) hc x hQ (hv.mono hle1)) fun v μ2 hle2 hR => ?_
 obtain ⟨rfl, e2⟩ := hR
 obtain rfl := e2.symm
 refine ifd (fun h => ?_) (fun h => ?_)
 ·rw [fit, if_neg (by omega)]
  exact rPl rfl
 ·rw [fit, if_pos (by omega)]
  refine ext_intro [.func (.func k) #[] caps.toArray] rfl (box_at hat1) ?_
  refine cPl (mapVars_specQ x hQ hk1 (hv.mono hle1)) fun v2 μ3 hle3 hR3 => ?_
  have w_ := Tm.invV hR3.rep
  obtain ⟨q, rfl⟩ := w_
  exact rPl ⟨_, rfl, hR3.mono hle1 (Mem.Le.refl _)⟩
theorem replaced_spec {k : FuncId} {caps : List Value} {f : Int → Option T} (x : T) {v : Value} (hk : Looks k caps μ f) (hf : ∀ n y, f n = some y → y.ok) (hv : RepV μ x.tm.d v) :
  Spec Try.prog 118 [v, .func (.func k) #[] caps.toArray] μ fun v μ' => optV (fun y tv => Fresh μ μ' y.tm.d tv) (fit (x.subst f)) v :=
 replaced_specQ (Q := fun _ => True) x (fun _ _ => trivial) (fun μ' h n _ => hk μ' h n) (fun n y _ => hf n y) hv
theorem put_spec {bs : List B} {base : Option Addr} {cap : Nat} (x : T) {v : Value} (hs : Srt bs) (hlen : bs.length ≤ 1000000000) (hk : ∀ b ∈ bs, b.to.ok) (hsl : Sl μ 5 base bs.length ((bs.map B.bd).map Bd.d)) (hv : RepV μ x.tm.d v) :
  Spec Try.prog 76 [.slice base bs.length cap, v] μ fun v μ' => optV (fun y tv => Fresh μ μ' y.tm.d tv) (fit (x.subst (sub bs))) v := by
 have w_ := Tm.invV hv
 obtain ⟨p, rfl⟩ := w_
 refine Spec.mk Try.func76 (by kernel_rfl) ?_
 intro r1 r2 r3
 refine call_frz [0] ?_
 intro μ1 hle1 hno1 hat1
 refine call_go (replaced_spec x (put1_looks hs hlen (hsl.mono hle1) hat1) (fun n y h => sub_ok hk h) (hv.mono hle1)) fun v μ2 hle2 hR => ?_
 cases hf : fit (x.subst (sub bs)) with
 | some y =>
  rw [hf] at hR
  obtain ⟨tv, rfl, htv⟩ := hR
  have w_ := Tm.invV htv.rep
  obtain ⟨q, rfl⟩ := w_
  exact rPl ⟨_, rfl, htv.mono hle1 (Mem.Le.refl _)⟩
 | none =>
  rw [hf] at hR
  obtain rfl := hR
  exact rPl rfl
end
end Go.Vx
namespace Go.Vx
open Go.Proofs Classical
def resTm : Option T → Tm
 | some y => y.tm
 | none => .mk 0 0 ⟨#[]⟩ []
theorem zero_own : OwnV (resTm none).d Mem.nil (.agg #[.int .i64 0, .int .i64 0, .string ⟨#[]⟩, .slice none 0 0]) := by
 rw [resTm, Tm.d_mk]
 exact ⟨_, rfl, OwnS.int (OwnS.int (OwnS.str (OwnS.last (Own.nilSl 4))))⟩
theorem optV_fresh {μ μ' : Mem} {o : Option T} {v : Value} (h : optV (fun y tv => Fresh μ μ' y.tm.d tv) o v) : ∃ tv, v = .tuple #[tv, .bool o.isSome] ∧ Fresh μ μ' (resTm o).d tv := by
 cases o with
 | some y => obtain ⟨tv, rfl, h⟩ := h; exact ⟨tv, rfl, h⟩
 | none => exact ⟨_, h, Mem.nil, zero_own, (fun _ _ h => nomatch h), fun _ h => absurd rfl h⟩
end Go.Vx
namespace Go.Vx
open Go.Proofs Classical
def sgn (b : Bool) : Int := if b then -1 else 1
noncomputable def hdCmp (x y : Tm) (rest : Int) : Int :=
 if x.kind ≠ y.kind then sgn (decide (x.kind < y.kind)) else if x.num ≠ y.num then sgn (decide (x.num < y.num)) else if x.name ≠ y.name then sgn (Op.bytesLess x.name.data.toList y.name.data.toList) else rest
noncomputable def T.cmp : T → T → Int
 | .pair a b, .pair c d => if a.cmp c = 0 then b.cmp d else a.cmp c
 | .pair a b, .nil => hdCmp (T.pair a b).tm T.nil.tm 0
 | .pair a b, .var n => hdCmp (T.pair a b).tm (T.var n).tm 0
 | .pair a b, .sym n => hdCmp (T.pair a b).tm (T.sym n).tm 0
 | .pair a b, .num n => hdCmp (T.pair a b).tm (T.num n).tm 0
 | .nil, y => hdCmp T.nil.tm y.tm 0
 | .var n, y => hdCmp (T.var n).tm y.tm 0
 | .sym n, y => hdCmp (T.sym n).tm y.tm 0
 | .num n, y => hdCmp (T.num n).tm y.tm 0
theorem sgn_ne (b : Bool) : sgn b ≠ 0 := by cases b <;> simp [sgn]
theorem hdCmp_zero {x y : Tm} {r : Int} : hdCmp x y r = 0 ↔ x.kind = y.kind ∧ x.num = y.num ∧ x.name = y.name ∧ r = 0 := by
 unfold hdCmp
 split
 ·rename_i h; exact ⟨fun k => absurd k (sgn_ne _), fun k => absurd k.1 h⟩
 ·split
  ·rename_i h; exact ⟨fun k => absurd k (sgn_ne _), fun k => absurd k.2.1 h⟩
  ·split
   ·rename_i h; exact ⟨fun k => absurd k (sgn_ne _), fun k => absurd k.2.2.1 h⟩
   ·rename_i h1 h2 h3
    exact ⟨fun k => ⟨Classical.not_not.1 h1, Classical.not_not.1 h2, Classical.not_not.1 h3, k⟩, fun k => k.2.2.2⟩
theorem T.cmp_zero : ∀ x y : T, x.cmp y = 0 ↔ x = y := by
 intro x
 induction x with
 | pair a b iha ihb =>
  intro y
  cases y with
  | pair c d =>
   rw [T.cmp, T.pair.injEq, ← iha, ← ihb]
   split
   ·rename_i h; exact ⟨fun k => ⟨h, k⟩, fun k => k.2⟩
   ·rename_i h; exact ⟨fun k => absurd k h, fun k => absurd k.1 h⟩
  | _ => rw [T.cmp, hdCmp_zero]; simp [T.tm, Tm.kind]
 | _ =>
  intro y
  rw [T.cmp, hdCmp_zero]
  cases y <;> simp [T.tm, Tm.kind, Tm.num, Tm.name]
theorem hd1 {x y : Tm} {r : Int} (h : ¬ x.kind = y.kind) : hdCmp x y r = sgn (decide (x.kind < y.kind)) := by rw [hdCmp, if_pos h]
theorem hd2 {x y : Tm} {r : Int} (h1 : x.kind = y.kind) (h : ¬ x.num = y.num) : hdCmp x y r = sgn (decide (x.num < y.num)) := by rw [hdCmp, if_neg (fun k => k h1), if_pos h]
theorem hd3 {x y : Tm} {r : Int} (h1 : x.kind = y.kind) (h2 : x.num = y.num) (h : ¬ x.name = y.name) : hdCmp x y r = sgn (Op.bytesLess x.name.data.toList y.name.data.toList) := by rw [hdCmp, if_neg (fun k => k h1), if_neg (fun k => k h2), if_pos h]
theorem hd4 {x y : Tm} {r : Int} (h1 : x.kind = y.kind) (h2 : x.num = y.num) (h : x.name = y.name) : hdCmp x y r = r := by rw [hdCmp, if_neg (fun k => k h1), if_neg (fun k => k h2), if_neg (fun k => k h)]
section
variable {μ : Mem}
theorem orderInts_spec (a b : Int) (h : ¬ a = b) : Gives Try.prog 117 [.int .i64 a, .int .i64 b] μ (.int .i64 (sgn (decide (a < b)))) := by
 refine Spec.mk Try.func117 (by kernel_rfl) ?_
 refine ifd (fun h1 => rGv ?_ rfl) (fun h1 => ?_)
 ·rw [decide_eq_true h1]; rfl
 refine ifd (fun h2 => rGv ?_ rfl) (fun h2 => by omega)
 rw [decide_eq_false h1]; rfl
noncomputable def T.rest : T → T → Int
 | .pair a b, .pair c d => if a.cmp c = 0 then b.cmp d else a.cmp c
 | _, _ => 0
theorem T.cmp_eq (x y : T) : x.cmp y = hdCmp x.tm y.tm (x.rest y) := by
 cases x with
 | pair a b =>
  cases y with
  | pair c d => rw [T.cmp, hd4 (x := (T.pair a b).tm) (y := (T.pair c d).tm) rfl rfl rfl]; rfl
  | _ => rw [T.cmp]; rfl
 | _ => rw [T.cmp]; rfl
theorem T.kind4 {x : T} (h : x.tm.kind = 4) : ∃ a b, x = .pair a b := by
 cases x <;> simp_all [T.tm, Tm.kind]
theorem T.arg {μ : Mem} {x : T} {base : Option Addr} (h : Sl μ 4 base x.args.length ((x.args.map T.tm).map Tm.d)) {i : Nat} {y : T} (hy : x.args[i]? = some y) : ∃ ad, ∃ p : Option Addr × Nat, ElemAt μ base x.args.length 4 i ad (y.tm.cs p) ∧ RepV μ y.tm.d (.agg (y.tm.cs p).toArray) :=
 Tm.elem h (by simp [hy])
theorem orderTerms_spec : ∀ (x y : T) {v w : Value}, RepV μ x.tm.d v → RepV μ y.tm.d w → Gives Try.prog 112 [v, w] μ (.int .i64 (x.cmp y)) :=
 T.ind fun x ih y v w hv hw => by
  have w_ := T.inv hv
  obtain ⟨b1, c1, rfl, hs1⟩ := w_
  have w_ := T.inv hw
  obtain ⟨b2, c2, rfl, hs2⟩ := w_
  rw [T.cmp_eq]
  refine Spec.mk Try.func112 (by kernel_rfl) ?_
  intro r1 r2
  refine ifnd (fun h => ?_) (fun h1 => ?_)
  ·exact cGv (orderInts_spec _ _ h) (rGv (by rw [hd1 h]) rfl)
  refine ifnd (fun h => ?_) (fun h2 => ?_)
  ·exact cGv (orderInts_spec _ _ h) (rGv (by rw [hd2 h1 h]) rfl)
  refine ifnd (fun h => ?_) (fun h3 => ?_)
  ·refine iIn (fun h4 => rGv ?_ rfl) (fun h4 => rGv ?_ rfl)
   ·rw [hd3 h1 h2 h, h4]; rfl
   ·rw [hd3 h1 h2 h, h4]; rfl
  rw [hd4 h1 h2 h3]
  refine ifnd (fun h => ?_) (fun h4 => ?_)
  ·refine rGv ?_ rfl
   have : x.rest y = 0 := by cases x <;> first | rfl | exact absurd rfl h
   rw [this]
  have w_ := T.kind4 h4
  obtain ⟨a, b, rfl⟩ := w_
  have w_ := T.kind4 (h1 ▸ h4)
  obtain ⟨c, d, rfl⟩ := w_
  have w_ := T.arg hs1 (i := 0) rfl
  obtain ⟨ad1, p1, e1, g1⟩ := w_
  have w_ := T.arg hs2 (i := 0) rfl
  obtain ⟨ad2, p2, e2, g2⟩ := w_
  have w_ := T.arg hs1 (i := 1) rfl
  obtain ⟨ad3, p3, e3, g3⟩ := w_
  have w_ := T.arg hs2 (i := 1) rfl
  obtain ⟨ad4, p4, e4, g4⟩ := w_
  refine eIn e1 (eIn e2 (cGv (ih a (by simp [T.args]) c g1 g2) ?_))
  simp only [T.rest]
  refine ifnd (fun h => ?_) (fun h5 => ?_)
  ·rw [if_neg h]; exact rGv rfl rfl
  ·rw [if_pos h5]
   exact eIn e3 (eIn e4 (cGv (ih b (by simp [T.args]) d g3 g4) (rGv rfl rfl)))
theorem equalTerms_spec (x y : T) {v w : Value} (hv : RepV μ x.tm.d v) (hw : RepV μ y.tm.d w) : Gives Try.prog 67 [v, w] μ (.bool (decide (x = y))) := by
 have w_ := Tm.invV hv
 obtain ⟨p, rfl⟩ := w_
 have w_ := Tm.invV hw
 obtain ⟨q, rfl⟩ := w_
 refine Spec.mk Try.func67 (by kernel_rfl) ?_
 intro r1 r2
 exact cGv (orderTerms_spec x y hv hw) (rGv (isI (T.cmp_zero x y)) rfl)
def varV (n : Int) : Value := .agg #[.int .i64 1, .int .i64 n, .string ⟨#[]⟩, .slice none 0 0]
theorem varV_own (n : Int) : OwnV (T.var n).tm.d Mem.nil (varV n) := by
 rw [T.d_eq]
 exact ⟨_, rfl, OwnS.int (OwnS.int (OwnS.str (OwnS.last (Own.nilSl 4))))⟩
theorem varV_rep (n : Int) : RepV μ (T.var n).tm.d (varV n) := (varV_own n).rep (fun _ _ h => nomatch h)
theorem variable_spec (n : Int) : Gives Try.prog 77 [.int .i64 n] μ (varV n) := by
 refine Spec.mk Try.func77 (by kernel_rfl) ?_
 intro r1
 exact rGv rfl rfl
theorem l02Var_spec (n : Int) : Gives Try.prog 102 [.int .i64 n] μ (varV n) := by
 refine Spec.mk Try.func102 (by kernel_rfl) ?_
 intro r1
 exact rGv rfl rfl
end
end Go.Vx
namespace Go.Vx
open Go.Proofs Classical
def bndOk (bs : List B) (b : B) : Prop := ¬ (b.to.tm.kind = 1 ∧ b.var ≤ b.to.tm.num) ∧ ∀ n ∈ b.to.vars, sub bs n = none
def substOk (l : List Bd) : Prop := valsOk l ∧ ∀ b ∈ l.map Bd.b, bndOk (l.map Bd.b) b
theorem B.bd_b (b : B) : b.bd.b = b := by
 cases b; simp [B.bd, Bd.b, T.toT_tm]
theorem B.map_b (bs : List B) : (bs.map B.bd).map Bd.b = bs := by
 rw [List.map_map]
 conv => rhs; rw [← List.map_id bs]
 exact List.map_congr_left fun b _ => B.bd_b b
structure Vals (bs : List B) : Prop where
 ok : valsOk (bs.map B.bd)
theorem Vals.len {bs : List B} (h : Vals bs) : bs.length ≤ 400 := by have := h.ok.1; simpa using this
theorem Vals.srt {bs : List B} (h : Vals bs) : Srt bs := by have := h.ok.srt; rwa [B.map_b] at this
theorem Vals.tok {bs : List B} (h : Vals bs) : ∀ b ∈ bs, b.to.ok := by have := h.ok.lift.2; rwa [B.map_b] at this
theorem Vals.var {bs : List B} (h : Vals bs) : ∀ b ∈ bs, 0 ≤ b.var ∧ b.var ≤ 100000 := fun b hb => by
 have w_ := List.mem_iff_getElem?.1 hb
 obtain ⟨i, hi⟩ := w_
 exact (h.ok.2 i b.bd (by simp [hi])).1
theorem valsOk.vals {l : List Bd} (h : valsOk l) : ∃ bs : List B, l = bs.map B.bd ∧ Vals bs := ⟨l.map Bd.b, h.lift.1.symm, ⟨by rw [h.lift.1]; exact h⟩⟩
structure Subst (bs : List B) : Prop where
 vals : Vals bs
 bnd : ∀ b ∈ bs, bndOk bs b
theorem substOk_iff (bs : List B) : substOk (bs.map B.bd) ↔ Subst bs := by
 unfold substOk
 rw [B.map_b]
 exact ⟨fun h => ⟨⟨h.1⟩, h.2⟩, fun h => ⟨h.1.1, h.2⟩⟩
theorem substOk.subst {l : List Bd} (h : substOk l) : ∃ bs : List B, l = bs.map B.bd ∧ Subst bs := by
 obtain ⟨bs, rfl, _⟩ := h.1.vals
 exact ⟨bs, rfl, (substOk_iff bs).1 h⟩
section
variable {μ : Mem}
def boolOn (H : Mem) (r : Nat) (b : Bool) : Mem := H.set r (.cells #[.bool b] 4 (0, 0))
noncomputable def unbound (bs : List B) (f : Bool) (n : Int) : Bool := if sub bs n = none then f else false
theorem SubstOk1_spec {bs : List B} {base : Option Addr} {cap : Nat} {H : Mem} {r1 : Nat} {t1 : TypeId} (r : Nat) (b : Bool) (n : Int) (hs : Srt bs) (hlen : bs.length ≤ 1000000000) (hsl : Sl μ 5 base bs.length ((bs.map B.bd).map Bd.d)) (h1 : μ r1 = some (.cells #[.slice base bs.length cap] t1 (0, 0))) :
  SpecH Try.prog 64 [.int .i64 n, .pointer (some ⟨r1, 0, none⟩), .pointer (some ⟨r, 0, none⟩)] μ (boolOn H r b) fun v μ' h' => v = .tuple #[] ∧ μ' = μ ∧ h' = boolOn H r (unbound bs b n) := by
 refine SpecH.mk [] Try.func64 (by kernel_rfl) ?_
 refine ext_intro [.slice base bs.length cap] rfl (box_at h1) ?_
 refine cPl (find_spec hs hlen hsl) fun v μ2 hle2 hR => ?_
 obtain ⟨hR, e2⟩ := hR
 obtain rfl := e2.symm
 rcases hR with ⟨i, c, rfl, hc, hn⟩ | ⟨rfl, hno⟩
 ·refine ifd (fun _ => ?_) (fun h => absurd h (by omega))
  refine sIn (h := boolOn H r b) (a := ⟨r, 0, none⟩) [.bool b] 4 (set_self _ _ _) rfl ?_ ?_
  ·exact Nat.le_refl _
  have e : sub bs n ≠ none := by rw [sub_some hs hc hn]; exact fun h => nomatch h
  exact rPl ⟨rfl, rfl, by rw [unbound, if_neg e]; exact Mem.set_set _ _ _ _⟩
 ·refine ifd (fun h => absurd h (by omega)) (fun _ => ?_)
  exact rPl ⟨rfl, rfl, by rw [unbound, if_pos (sub_none hno)]⟩
theorem unbound_all (bs : List B) : ∀ (l : List Int) (f : Bool), l.foldl (unbound bs) f = (f && decide (∀ n ∈ l, sub bs n = none))
 | [], f => by simp
 | n :: l, f => by
  rw [List.foldl_cons, unbound_all bs l, unbound]
  by_cases h : sub bs n = none <;> simp [h]
theorem impl_SubstOk_spec {l : List Bd} {base : Option Addr} {cap : Nat} (hsl : Sl μ 5 base l.length (l.map Bd.d)) : Gives Try.prog 18 [.slice base l.length cap] μ (.bool (decide (substOk l))) := by
 refine Spec.forget (Spec.mkO [5] Try.func18 (by kernel_rfl) ?_)
 intro r1
 refine call_frz [0] ?_
 intro μ1 hle1 hno1 hat1
 refine call_go (impl_ValuesOk_spec (hsl.mono hle1)) fun v μ2 hle2 hR => ?_
 obtain ⟨rfl, e2⟩ := hR
 obtain rfl := e2.symm
 refine ifnd (fun h => rPl (isF fun k => h k.1)) (fun hv => ?_)
 obtain ⟨bs, rfl, hbs⟩ := hv.vals
 rw [List.length_map] at hsl hat1 ⊢
 have hn := hbs.len
 have hsl1 := hsl.mono hle1
 refine ext_intro [.slice base bs.length cap] rfl (box_at hat1) ?_
 refine lIn (fun p : Nat × Mem => p.1 ≤ bs.length ∧ ∀ (j : Nat) b, j < p.1 → bs[j]? = some b → bndOk bs b)
  (fun (i, H) => ⟨[(1, .loc 0 r1 0), (9, .val (.slice base bs.length cap)), (10, .val (.int .i64 bs.length)), (11, .val (.int .i64 i))], [], 1, μ1, H⟩) (fun p => bs.length - p.1)
  (0, Mem.nil) ⟨by simp, fun j b hj => by simp at hj⟩ (fun (_, _) => ⟨rfl, rfl⟩) ⟨⟨rfl, rfl, rfl, rfl, trivial⟩, trivial, rfl, rfl⟩ ?_
 rintro ⟨i, H⟩ ⟨hi, hall⟩
 dsimp only at hi hall
 refine ifd (fun h => ?_) (fun h => ?_)
 ·have w_ := aSo (l := bs) (i := i) (by omega)
  obtain ⟨b, hb⟩ := w_
  have w_ := B.elem hsl1 hb
  obtain ⟨ad, p, hel, hto⟩ := w_
  have bad : ¬ bndOk bs b → Value.bool false = .bool (decide (substOk (bs.map B.bd))) := fun k => isF fun hs => k (((substOk_iff bs).1 hs).bnd b (mAt hb))
  refine eIn hel ?_
  intro r r5 hm5 ho5
  refine sIn [.bool false] 4 (set_self _ _ _) rfl ?_ ?_
  ·exact Nat.le_refl _
  have e : ((H.set r5 (.cells #[.bool false] 4 (0, 0))).set r5 (.cells #[.bool true] 4 (0, 0))) = boolOn H r5 true := Mem.set_set _ _ _ _
  refine cOw (R := fun r μ' h' => r = .tuple #[] ∧ μ' = μ1 ∧ h' = boolOn H r5 (b.to.vars.foldl (unbound bs) true)) ?_ fun v μ' h' hle hap hR => ?_
  ·have := eachVar_spec (μ := μ1) (boolOn H r5) (unbound bs) (Q := fun _ => True) (fun s n _ => SubstOk1_spec (H := H) r5 s n hbs.srt (by omega) hsl1 hat1) b.to true hto (fun _ _ => trivial)
   rw [← e] at this
   exact this
  obtain ⟨rfl, e4, rfl⟩ := hR
  obtain rfl := e4.symm
  rw [unbound_all, Bool.true_and]
  refine oIn [.bool (decide (∀ n ∈ b.to.vars, sub bs n = none))] rfl (fun j v hj => ?_) ?_
  ·match j, hj with
   | 0, hj => cases hj; simp [boolOn, Mem.cell, Addr.add_lit', set_self]
  have fin : bndOk bs b → ∀ (j : Nat) c, j < i + 1 → bs[j]? = some c → bndOk bs c := fun hok j c hj hc => by
   rcases Nat.lt_or_ge j i with h6 | h6
   ·exact hall j c h6 hc
   ·obtain rfl : j = i := by omega
    rw [hb] at hc; cases hc; exact hok
  refine ifnd (fun h1 => rPl (bad fun k => h1 k.2)) (fun h1 => ?_)
  refine ifd (fun h2 => ?_) (fun h2 => ?_)
  ·refine ifd (fun h3 => rPl (bad fun k => k.1 ⟨h2, h3⟩)) (fun h3 => ?_)
   exact num64 (by omega) (by omega) ⟨(i + 1, _), ⟨by dsimp only; omega, fin ⟨fun k => h3 k.2, h1⟩⟩, by dsimp only; omega, ⟨⟨rfl, rfl, rfl, rfl, trivial⟩, trivial, rfl, rfl⟩⟩
  ·exact num64 (by omega) (by omega) ⟨(i + 1, _), ⟨by dsimp only; omega, fin ⟨fun k => h2 k.1, h1⟩⟩, by dsimp only; omega, ⟨⟨rfl, rfl, rfl, rfl, trivial⟩, trivial, rfl, rfl⟩⟩
 ·obtain rfl : i = bs.length := by omega
  exact rPl (isT ((substOk_iff bs).2 ⟨hbs, fun b hb => by
   have w_ := List.mem_iff_getElem?.1 hb
   obtain ⟨j, hj⟩ := w_
   exact hall j b (List.getElem?_eq_some_iff.1 hj).1 hj⟩))
end
end Go.Vx
namespace Go.Vx
open Go.Proofs Classical
theorem fit_some {x y : T} : fit x = some y ↔ x.size ≤ 5000 ∧ x = y := by
 unfold fit
 split
 ·rename_i h; exact ⟨fun k => ⟨h, Option.some.inj k⟩, fun k => by rw [k.2]⟩
 ·rename_i h; exact ⟨fun k => (nomatch k), fun k => absurd k.1 h⟩
section
variable {μ : Mem}
end
end Go.Vx
namespace Go.Vx
open Go.Proofs Classical
def optB (P : List B → Value → Prop) (o : Option (List B)) (v : Value) : Prop := match o with
 | some l => ∃ tv, v = .tuple #[tv, .bool true] ∧ P l tv
 | none => v = .tuple #[.slice none 0 0, .bool false]
end Go.Vx
namespace Go.Vx
open Go.Proofs Classical
section
variable {P : Program} {f : FuncId} {args : List Value} {μ h H : Mem}
theorem Mem.set_at (m : Mem) (r : Nat) (o : Obj) : (m.set r o) r = some o := by rw [Mem.set_get, if_pos rfl]
theorem Mem.set_ne {m : Mem} {b r : Nat} {o : Obj} (h : b ≠ r) : (m.set r o) b = m b := by rw [Mem.set_get, if_neg h]
theorem ne_of_none {a b : Nat} {x : Obj} (h1 : h a = some x) (h2 : h b = none) : a ≠ b := fun e => by
 subst e; rw [h1] at h2; cases h2
theorem Apart.set {r : Nat} {o : Obj} (k : Apart μ h) (hr : μ r = none) : Apart μ (h.set r o) := fun b hb => by
 by_cases e : b = r
 ·subst e; exact absurd hr hb
 ·rw [Mem.set_ne e]; exact k b hb
theorem RowO.set_ne {r cap b : Nat} {ty : TypeId} {es : Nat} {xs : List Value} {o : Obj} (k : RowO h r cap ty es xs) (hb : r ≠ b) : RowO (h.set b o) r cap ty es xs := by
 obtain ⟨cs, h1, h2⟩ := k
 exact ⟨cs, by rw [Mem.set_ne hb]; exact h1, h2⟩
theorem RowO.rowAt {r cap : Nat} {ty : TypeId} {es : Nat} {xs : List Value} (k : RowO h r cap ty es xs) (hl : h.Le μ) : RowAt μ (some r) cap es xs := by
 obtain ⟨cs, h1, h2, h3, h4, h5, h6⟩ := k
 exact ⟨h2, h4, cs.toArray, ty, hl _ _ h1, by simpa using h5, by simpa using h6⟩
theorem RowO.len {r cap : Nat} {ty : TypeId} {es : Nat} {xs : List Value} (k : RowO h r cap ty es xs) : xs.length ≤ maxLen := by
 obtain ⟨cs, h1, h2, h3, _⟩ := k
 exact h3
theorem RowO.rep {r cap : Nat} {ty : TypeId} {es : Nat} {xs : List Value} {ds : List D} (k : RowO h r cap ty es xs) (hl : h.Le μ) (hr : Rows μ es ds xs) : RepV μ (.sl es ds) (.slice (some ⟨r, 0, none⟩) xs.length cap) :=
 Rows.sl (k.rowAt hl) hr k.len
theorem RowO.mk_nil (h : Mem) (r : Nat) (ty : TypeId) (es : Nat) : RowO (h.set r (.cells #[] ty (0, 0))) r 0 ty es [] :=
 ⟨[], Mem.set_at _ _ _, Nat.le_refl _, Nat.zero_le _, by simp, by simp, by simp⟩
def IntKey (v : Value) : Prop := ∃ n, v = .int .i64 n
theorem MapOk.weaken {ok ok' : Value → Prop} {l : List (Value × Value)} (k : MapOk ok l) (hk : ∀ v, ok v → ok' v) : MapOk ok' l := ⟨fun p hp => hk _ (k.keys p hp), k.nodup⟩
theorem MapOk.int {l : List (Value × Value)} (k : MapOk IntKey l) {n : Int} (v : Value) : MapOk IntKey (mset l (.int .i64 n) v) := k.set ⟨n, rfl⟩ v
theorem mget_int (l : List (Value × Value)) (n m : Int) (v : Value) : mget (mset l (.int .i64 n) v) (.int .i64 m) = if m = n then some v else mget l (.int .i64 m) := by
 rw [mget_mset]
 by_cases e : m = n
 ·subst e; rw [if_pos rfl, if_pos rfl]
 ·rw [if_neg e, if_neg (by simp [e])]
def Grown (es : Nat) (μ μ' : Mem) (ds : List D) (ys : List Value) : Prop := ∃ g, OwnRows es ds ys g ∧ g.Le μ' ∧ ∀ b, g b ≠ none → μ b = none
theorem Grown.nil (es : Nat) (μ μ' : Mem) : Grown es μ μ' [] [] := ⟨Mem.nil, OwnRows.nil es, (fun _ _ h => nomatch h), fun _ h => absurd rfl h⟩
theorem Grown.snoc {es : Nat} {μ μ' μ'' : Mem} {ds : List D} {ys : List Value} {d : D} {v : Value} (k : Grown es μ μ' ds ys) (h0 : μ.Le μ') (hv : Fresh μ' μ'' d v) (h1 : μ'.Le μ'') (hn : d.n = es) : Grown es μ μ'' (ds ++ [d]) (ys ++ [v]) := by
 obtain ⟨g, a, b, c⟩ := k
 obtain ⟨g', a', b', c'⟩ := hv
 refine ⟨g.join g', a.snoc a' hn (fresh_apart b c'), join_le (b.trans h1) b', fun x hx => ?_⟩
 rcases join_ne hx with h | h
 ·exact c x h
 ·have h3 := c' x h
  cases h4 : μ x with
  | none => rfl
  | some o => rw [h0 x o h4] at h3; cases h3
theorem Grown.mono {es : Nat} {μ μ' μ'' : Mem} {ds : List D} {ys : List Value} (k : Grown es μ μ' ds ys) (h : μ'.Le μ'') : Grown es μ μ'' ds ys := by
 obtain ⟨g, a, b, c⟩ := k
 exact ⟨g, a, b.trans h, c⟩
theorem Grown.len {es : Nat} {μ μ' : Mem} {ds : List D} {ys : List Value} (k : Grown es μ μ' ds ys) : ds.length = ys.length := by
 obtain ⟨g, a, _⟩ := k
 exact a.len
theorem Grown.fresh {es : Nat} {μ μ1 μ' : Mem} {b : Option Nat} {cap : Nat} {ds : List D} {ys : List Value} (k : Grown es μ μ1 ds ys) (h0 : μ.Le μ1) (h1 : μ1.Le μ') (hb : ∀ r, b = some r → μ1 r = none) (hr : RowAt μ' b cap es ys) (hm : ys.length ≤ maxLen) :
  Fresh μ μ' (.sl es ds) (.slice (b.map fun r => ⟨r, 0, none⟩) ys.length cap) := by
 obtain ⟨g, a, b', c⟩ := k
 exact Fresh.ofRow a b' c h0 h1 hb hr hm
variable {dr : Bool} {s : St} {K : Value → St → Prop}
end
section
variable {μ : Mem}
end
end Go.Vx
namespace Go.Vx
open Go.Proofs Classical
noncomputable def ord (acc : List Int) (n : Int) : List Int := if n ∈ acc then acc else acc ++ [n]
noncomputable def ordAll (acc vs : List Int) : List Int := vs.foldl ord acc
theorem ord_mem (acc : List Int) (n m : Int) : m ∈ ord acc n ↔ m = n ∨ m ∈ acc := by
 unfold ord
 split
 ·rename_i h
  exact ⟨.inr, fun k => k.elim (fun e => e ▸ h) id⟩
 ·simp only [List.mem_append, List.mem_singleton]
  exact or_comm
theorem ordAll_mem : ∀ (vs acc : List Int) (m : Int), m ∈ ordAll acc vs ↔ m ∈ vs ∨ m ∈ acc
 | [], acc, m => by simp [ordAll]
 | n :: vs, acc, m => by
  have := ordAll_mem vs (ord acc n) m
  simp only [ordAll, List.foldl_cons] at *
  rw [this, ord_mem, List.mem_cons]
  constructor
  ·rintro (h | h | h) <;> simp [h]
  ·rintro ((h | h) | h) <;> simp [h]
section
variable {μ : Mem}
end
end Go.Vx
namespace Go.Vx
open Go.Proofs Classical
section
variable {μ : Mem}
theorem Rep.val : ∀ {d : D} {c : List Value}, Rep μ d c → ∃ v, RepV μ d v ∧ vcells v = c
 | .st fs, c, h => ⟨.agg c.toArray, ⟨c, rfl, h⟩, by simp [vcells]⟩
 | .i n, c, h => by
  have h2 : c = [.int .i64 n] := h
  subst h2; exact ⟨_, h, rfl⟩
 | .b x, c, h => by
  have h2 : c = [.bool x] := h
  subst h2; exact ⟨_, h, rfl⟩
 | .s x, c, h => by
  have h2 : c = [.string x] := h
  subst h2; exact ⟨_, h, rfl⟩
 | .sl es xs, c, h => by
  obtain ⟨base, cap, h1, h2⟩ := h
  subst h1
  exact ⟨_, ⟨base, cap, rfl, h2⟩, rfl⟩
theorem RepS.rows {es : Nat} : ∀ {l : List D} {flat : List Value}, RepS μ l flat → (∀ x ∈ l, x.n = es) → ∃ vs, Rows μ es l vs ∧ vs.flatMap vcells = flat
 | [], flat, h, _ => by
  have h : flat = [] := h
  subst h; exact ⟨[], .nil, rfl⟩
 | d :: l, flat, h, hn => by
  obtain ⟨c1, c2, rfl, h1, h2⟩ := h
  have w_ := Rep.val h1
  obtain ⟨v, hv, rfl⟩ := w_
  have w_ := RepS.rows h2 fun x hx => hn x (by simp [hx])
  obtain ⟨vs, hr, rfl⟩ := w_
  exact ⟨v :: vs, .cons hv (hn d (by simp)) hr, by simp⟩
theorem Rows.take {es : Nat} : ∀ {ds : List D} {vs : List Value} (k : Nat), Rows μ es ds vs → Rows μ es (ds.take k) (vs.take k)
 | _, _, 0, _ => by simpa using Rows.nil
 | _, _, k + 1, .nil => by simpa using Rows.nil
 | _, _, k + 1, .cons h hn r => by simpa using Rows.cons h hn (r.take k)
theorem Rows.drop {es : Nat} : ∀ {ds : List D} {vs : List Value} (k : Nat), Rows μ es ds vs → Rows μ es (ds.drop k) (vs.drop k)
 | _, _, 0, h => by simpa using h
 | _, _, k + 1, .nil => by simpa using Rows.nil
 | _, _, k + 1, .cons h hn r => by simpa using r.drop k
theorem Rows.size {es : Nat} : ∀ {ds : List D} {vs : List Value}, Rows μ es ds vs → ∀ v ∈ vs, (vcells v).length = es ∧ ∀ u ∈ vcells v, u.oneCell' = true
 | _, _, .nil, v, hv => by simp at hv
 | _, _, .cons h hn r, v, hv => by
  rcases List.mem_cons.1 hv with rfl | hv
  ·exact ⟨by rw [Rep.len _ _ h.cells]; exact hn, Rep.one _ _ h.cells⟩
  ·exact r.size v hv
def insAt {α : Type} (l : List α) (x : α) (k : Nat) : List α := l.take k ++ ([x] ++ l.drop k)
theorem insAt_mem {α : Type} (l : List α) (x y : α) (k : Nat) : y ∈ insAt l x k ↔ y = x ∨ y ∈ l := by
 have h2 : y ∈ l ↔ y ∈ l.take k ∨ y ∈ l.drop k := by rw [← List.mem_append, List.take_append_drop]
 simp only [insAt, List.mem_append, List.mem_singleton, h2]
 constructor
 ·rintro (h | h | h) <;> simp [h]
 ·rintro (h | h | h) <;> simp [h]
theorem sub_append (a c : List B) (n : Int) : sub (a ++ c) n = (sub a n).or (sub c n) := by
 induction a with
 | nil => simp [sub]
 | cons b a ih =>
  simp only [List.cons_append, sub]
  split
  ·simp
  ·exact ih
theorem idx_at : ∀ {l : List Int} (_ : l.Nodup) {i : Nat} {n : Int}, l[i]? = some n → l.idxOf n = i
 | [], _, i, n, h => by simp at h
 | a :: l, hn, 0, n, h => by
  simp only [List.getElem?_cons_zero, Option.some.injEq] at h
  subst h; simp
 | a :: l, hn, i + 1, n, h => by
  simp only [List.getElem?_cons_succ] at h
  simp only [List.nodup_cons] at hn
  have hne : ¬ a = n := fun e => hn.1 (by subst e; exact List.mem_of_getElem? h)
  have hb : (a == n) = false := by simp [hne]
  rw [List.idxOf_cons, hb, idx_at hn.2 h]
  rfl
theorem T.vars_range : ∀ {x : T}, x.good → ∀ n ∈ x.vars, 0 ≤ n ∧ n ≤ 100000
 | .var n, h, m, hm => by
  simp only [T.vars, List.mem_singleton] at hm
  subst hm; exact h
 | .pair a b, h, m, hm => by
  simp only [T.vars, List.mem_append] at hm
  exact hm.elim (T.vars_range h.1 m) (T.vars_range h.2 m)
 | .nil, _, m, hm => by simp [T.vars] at hm
 | .sym _, _, m, hm => by simp [T.vars] at hm
 | .num _, _, m, hm => by simp [T.vars] at hm
theorem nodup_range {N : Nat} : ∀ {l : List Int}, l.Nodup → (∀ n ∈ l, 0 ≤ n ∧ n < N) → l.length ≤ N := by
 induction N with
 | zero =>
  intro l _ h
  cases l with
  | nil => simp
  | cons a l => have := h a (by simp); omega
 | succ N ih =>
  intro l hn h
  have h1 := ih (l := l.erase (N : Int)) (hn.erase _) fun n hm => by
   rw [hn.mem_erase_iff] at hm
   have := h n hm.2
   have h2 : n ≠ (N : Int) := hm.1
   omega
  have h2 : l.length ≤ (l.erase (N : Int)).length + 1 := by
   rw [List.length_erase]; split <;> omega
  omega
end
end Go.Vx
namespace Go.Vx
open Go.Proofs Classical
abbrev Tm.P := Option Addr × Nat
abbrev Bd.P := Option Addr × Nat
section
variable {μ : Mem}
theorem Bd.d_eq (b : Bd) : b.d = .st [.i b.var, b.to.d] := rfl
def FreshS (μ μ' : Mem) (ds : List D) (cs : List Value) : Prop := ∃ g : Mem, OwnS ds g cs ∧ g.Le μ' ∧ ∀ b, g b ≠ none → μ b = none
variable {μ1 μ' : Mem}
theorem FreshS.nil : FreshS μ μ' [] [] := ⟨Mem.nil, ⟨rfl, rfl⟩, (fun _ _ h => nomatch h), fun _ h => absurd rfl h⟩
theorem FreshS.int {n : Int} {ds : List D} {cs : List Value} (k : FreshS μ μ' ds cs) : FreshS μ μ' (.i n :: ds) (.int .i64 n :: cs) := by
 obtain ⟨g, a, b, c⟩ := k
 exact ⟨g, OwnS.int a, b, c⟩
theorem FreshS.bool {n : Bool} {ds : List D} {cs : List Value} (k : FreshS μ μ' ds cs) : FreshS μ μ' (.b n :: ds) (.bool n :: cs) := by
 obtain ⟨g, a, b, c⟩ := k
 exact ⟨g, OwnS.bool a, b, c⟩
theorem FreshS.str {n : ByteArray} {ds : List D} {cs : List Value} (k : FreshS μ μ' ds cs) : FreshS μ μ' (.s n :: ds) (.string n :: cs) := by
 obtain ⟨g, a, b, c⟩ := k
 exact ⟨g, OwnS.str a, b, c⟩
theorem FreshS.cons {d : D} {v : Value} {ds : List D} {cs : List Value} (k1 : Fresh μ μ1 d v) (h1 : μ.Le μ1) (h2 : μ1.Le μ') (k : FreshS μ1 μ' ds cs) : FreshS μ μ' (d :: ds) (vcells v ++ cs) := by
 obtain ⟨g1, a1, b1, c1⟩ := k1
 obtain ⟨g, a, b, c⟩ := k
 refine ⟨g1.join g, OwnS.cons (Parts.join (fresh_apart b1 c)) a1.cells a, join_le (b1.trans h2) b, fun x hx => ?_⟩
 rcases join_ne hx with h | h
 ·exact c1 x h
 ·have h3 := c x h
  cases h0 : μ x with
  | none => rfl
  | some o => rw [h1 x o h0] at h3; cases h3
theorem FreshS.mono {μ0 : Mem} {ds : List D} {cs : List Value} (k : FreshS μ1 μ' ds cs) (h : μ0.Le μ1) : FreshS μ0 μ' ds cs := by
 obtain ⟨g, a, b, c⟩ := k
 refine ⟨g, a, b, fun x hx => ?_⟩
 have h3 := c x hx
 cases h0 : μ0 x with
 | none => rfl
 | some o => rw [h x o h0] at h3; cases h3
theorem FreshS.st {ds : List D} {cs : List Value} (k : FreshS μ μ' ds cs) : Fresh μ μ' (.st ds) (.agg cs.toArray) := by
 obtain ⟨g, a, b, c⟩ := k
 exact ⟨g, ⟨cs, rfl, a⟩, b, c⟩
end
end Go.Vx
namespace Go.Vx
open Go.Proofs Classical
open Go.Sort
def RowI (h0 : Mem) (r : Nat) (ty : TypeId) (rest : List Value) (d : Array Int) : Mem := h0.set r (.cells (List.toArray ([] ++ (d.toList.map (Value.int .i64) ++ rest))) ty (0, 0))
theorem arr_at {d : Array Int} {k : Nat} (h : k < d.size) : d.toList[k]? = some d[k]! := by
 rw [Array.getElem?_toList, getElem!_pos d k h, Array.getElem?_eq_getElem h]
section
variable {μ h0 : Mem} {r : Nat} {ty : TypeId} {rest : List Value} {d : Array Int}
theorem idxI {n : Nat} {i : Int} {K : Addr → List Value → Prop} {K' : Addr → Prop} (k : Nat) (e : i = k) (hk : k < n) (h : K' ⟨r, k, none⟩) : elemVC μ (some ⟨r, 0, none⟩) n 1 i K K' := by
 subst e
 refine ptr_intro ⟨r, 0, none⟩ rfl (by omega) (by omega) ?_
 have : (⟨r, 0, none⟩ : Addr).add ((k : Int).toNat * 1) = ⟨r, k, none⟩ := by rw [Addr.add_lit']; simp
 rw [this]; exact h
theorem rdI {k : Nat} {K : List Value → Prop} (hk : k < d.size) (h : K [.int .i64 d[k]!]) : extVC μ (RowI h0 r ty rest d) ⟨r, k, none⟩ 1 K :=
 own_at (pre := []) (j := k) (by simp) (by rw [List.getElem?_map, arr_at hk]; rfl) h
theorem wrI {k : Nat} {v : Int} {K : Mem → Prop} (hk : k < d.size) (h : K (RowI h0 r ty rest (d.setIfInBounds k v))) : stoVC (RowI h0 r ty rest d) ⟨r, k, none⟩ [.int .i64 v] K := by
 refine sto_at (pre := []) (j := k) (by simp) (by simpa using hk) ?_
 have e : (d.toList.map (Value.int .i64)).set k (.int .i64 v) = (d.setIfInBounds k v).toList.map (Value.int .i64) := by
  rw [Array.toList_setIfInBounds, List.map_set]
 rw [e]; exact h
theorem swp_size (d : Array Int) (i j : Nat) : (swp d i j).size = d.size := by simp [swp]
theorem isNaN_spec (x : Int) : Gives Try.prog 189 [.int .i64 x] μ (.bool false) := by
 refine Spec.mk Try.func189 (by kernel_rfl) ?_
 exact rGv (by simp) rfl
theorem Less_spec (x y : Int) : Gives Try.prog 181 [.int .i64 x, .int .i64 y] μ (.bool (ltInt x y)) := by
 refine Spec.mk Try.func181 (by kernel_rfl) ?_
 refine cGv (isNaN_spec x) ?_
 refine iIn (fun h => nomatch h) (fun _ => ?_)
 exact rGv rfl rfl
theorem insertionSort_spec {n a b : Nat} {cap : Nat} (hd : d.size = n) (ha : a ≤ b) (hb : b ≤ n) (hn : n ≤ 1000000000000) :
  SpecH Try.prog 175 [.slice (some ⟨r, 0, none⟩) n cap, .int .i64 a, .int .i64 b] μ (RowI h0 r ty rest d) fun v μ' h' => v = .tuple #[] ∧ μ' = μ ∧ h' = RowI h0 r ty rest (insertionSort ltInt d a b) := by
 refine SpecH.mk [] Try.func175 (by kernel_rfl) ?_
 rw [insertionSort]
 generalize hD : insOuter ltInt a b (a + 1) d = D
 refine nEq (x := ((a + 1 : Nat) : Int)) (by rw [wrap64 (by omega) (by omega)]; omega) ?_
 refine lIn (fun p : Nat × Array Int => a + 1 ≤ p.1 ∧ p.1 ≤ max b (a + 1) ∧ p.2.size = n ∧ insOuter ltInt a b p.1 p.2 = D)
  (fun (i, d) => ⟨[(0, .val (.slice (some ⟨r, 0, none⟩) n cap)), (1, .val (.int .i64 a)), (2, .val (.int .i64 b)), (6, .val (.int .i64 i))], [], 0, μ, RowI h0 r ty rest d⟩) (fun p => b - p.1)
  (a + 1, d) ⟨by omega, by omega, hd, hD⟩ (fun (_, _) => ⟨rfl, rfl⟩) ⟨⟨rfl, rfl, rfl, rfl, trivial⟩, trivial, rfl, rfl⟩ ?_
 rintro ⟨i, d1⟩ ⟨hi1, hi2, hs, hJ⟩
 dsimp only at hi1 hi2 hs hJ
 rw [insOuter] at hJ
 refine ifd (fun h => ?_) (fun h => ?_)
 ·rw [if_pos (by omega)] at hJ
  refine lIn (fun p : Nat × Array Int => p.1 < n ∧ p.2.size = n ∧ insInner ltInt a p.1 p.2 = insInner ltInt a i d1)
   (fun (j, d) => ⟨[(0, .val (.slice (some ⟨r, 0, none⟩) n cap)), (1, .val (.int .i64 a)), (2, .val (.int .i64 b)), (6, .val (.int .i64 i)), (7, .val (.int .i64 j))], [], 0, μ, RowI h0 r ty rest d⟩) (fun p => p.1)
   (i, d1) ⟨by omega, hs, rfl⟩ (fun (_, _) => ⟨rfl, rfl⟩) ⟨⟨rfl, rfl, rfl, rfl, rfl, trivial⟩, trivial, rfl, rfl⟩ ?_
  rintro ⟨j, d2⟩ ⟨hj, hs2, hJ2⟩
  dsimp only at hj hs2 hJ2
  refine ifd (fun hja => ?_) (fun hja => ?_)
  ·obtain ⟨j, rfl⟩ : ∃ k, j = k + 1 := ⟨j - 1, by omega⟩
   rw [insInner] at hJ2
   refine idxI (j + 1) rfl (by omega) ?_
   refine rdI (by omega) ?_
   refine nEq (x := ((j : Nat) : Int)) (by rw [wrap64 (by omega) (by omega)]; omega) ?_
   refine idxI j rfl (by omega) ?_
   refine rdI (by omega) ?_
   refine cGv (Less_spec _ _) ?_
   have g : decide (j + 1 > a) = true := decide_eq_true (by omega)
   refine iIn (fun hl => ?_) (fun hl => ?_)
   ·rw [g, hl, Bool.and_self, if_pos rfl] at hJ2
    refine nEq (x := ((j : Nat) : Int)) (by rw [wrap64 (by omega) (by omega)]; omega) ?_
    refine nEq (x := ((j : Nat) : Int)) (by rw [wrap64 (by omega) (by omega)]; omega) ?_
    refine idxI j rfl (by omega) ?_
    refine rdI (by omega) ?_
    refine idxI (j + 1) rfl (by omega) ?_
    refine rdI (by omega) ?_
    refine idxI (j + 1) rfl (by omega) ?_
    refine wrI (by omega) ?_
    refine idxI j rfl (by omega) ?_
    refine wrI (by simp; omega) ?_
    refine nEq (x := ((j : Nat) : Int)) (by rw [wrap64 (by omega) (by omega)]; omega) ?_
    exact ⟨(j, swp d2 (j + 1) j), ⟨by dsimp only; omega, by dsimp only; rw [swp_size]; exact hs2, hJ2⟩, by dsimp only; omega, ⟨⟨rfl, rfl, rfl, rfl, rfl, trivial⟩, trivial, rfl, rfl⟩⟩
   ·rw [hl, Bool.and_false, if_neg (by simp)] at hJ2
    exact num64 (by omega) (by omega) ⟨(i + 1, d2), ⟨by dsimp only; omega, by dsimp only; omega, hs2, by dsimp only; rw [hJ2]; exact hJ⟩, by dsimp only; omega, ⟨⟨rfl, rfl, rfl, rfl, trivial⟩, trivial, rfl, rfl⟩⟩
  ·have hJ3 : insInner ltInt a j d2 = d2 := by
    cases j with
    | zero => rfl
    | succ j => rw [insInner, if_neg]; simp; omega
   rw [hJ3] at hJ2
   exact num64 (by omega) (by omega) ⟨(i + 1, d2), ⟨by dsimp only; omega, by dsimp only; omega, hs2, by dsimp only; rw [hJ2]; exact hJ⟩, by dsimp only; omega, ⟨⟨rfl, rfl, rfl, rfl, trivial⟩, trivial, rfl, rfl⟩⟩
 ·rw [if_neg (by omega)] at hJ
  exact rPl ⟨rfl, rfl, by rw [hJ]⟩
end
end Go.Vx
namespace Go.Vx
open Go.Proofs Classical
open Go.Sort
section
variable {μ h0 : Mem} {r : Nat} {ty : TypeId} {rest : List Value} {d : Array Int}
theorem reverseRange_spec {n a b : Nat} {cap : Nat} (hd : d.size = n) (hb1 : 1 ≤ b) (ha : a ≤ b) (hb : b ≤ n) (hn : n ≤ 1000000000000) :
  SpecH Try.prog 179 [.slice (some ⟨r, 0, none⟩) n cap, .int .i64 a, .int .i64 b] μ (RowI h0 r ty rest d) fun v μ' h' => v = .tuple #[] ∧ μ' = μ ∧ h' = RowI h0 r ty rest (reverseRange d a b) := by
 refine SpecH.mk [] Try.func179 (by kernel_rfl) ?_
 rw [reverseRange]
 generalize hD : reverseLoop a (b - 1) d = D
 refine nEq (x := ((b - 1 : Nat) : Int)) (by rw [wrap64 (by omega) (by omega)]; omega) ?_
 refine lIn (fun p : Nat × Nat × Array Int => p.2.1 < n ∧ p.1 ≤ n ∧ p.2.2.size = n ∧ reverseLoop p.1 p.2.1 p.2.2 = D)
  (fun (i, j, d) => ⟨[(0, .val (.slice (some ⟨r, 0, none⟩) n cap)), (6, .val (.int .i64 i)), (7, .val (.int .i64 j))], [], 0, μ, RowI h0 r ty rest d⟩) (fun p => p.2.1)
  (a, b - 1, d) ⟨by dsimp only; omega, by dsimp only; omega, hd, hD⟩ (fun (_, _, _) => ⟨rfl, rfl⟩) ⟨⟨rfl, rfl, rfl, trivial⟩, trivial, rfl, rfl⟩ ?_
 rintro ⟨i, j, d1⟩ ⟨hj, hi, hs, hJ⟩
 dsimp only at hj hi hs hJ
 rw [reverseLoop] at hJ
 refine ifd (fun h => ?_) (fun h => ?_)
 ·rw [if_pos (by omega)] at hJ
  refine idxI (j) (by omega) (by omega) ?_
  refine rdI (by omega) ?_
  refine idxI (i) (by omega) (by omega) ?_
  refine rdI (by omega) ?_
  refine idxI (i) (by omega) (by omega) ?_
  refine wrI (by omega) ?_
  refine idxI (j) (by omega) (by omega) ?_
  refine wrI (by simp; omega) ?_
  refine nEq (x := ((i + 1 : Nat) : Int)) (by rw [wrap64 (by omega) (by omega)]; omega) ?_
  refine nEq (x := ((j - 1 : Nat) : Int)) (by rw [wrap64 (by omega) (by omega)]; omega) ?_
  exact ⟨(i + 1, j - 1, swp d1 i j), ⟨by dsimp only; omega, by dsimp only; omega, by dsimp only; rw [swp_size]; exact hs, hJ⟩, by dsimp only; omega, ⟨⟨rfl, rfl, rfl, trivial⟩, trivial, rfl, rfl⟩⟩
 ·rw [if_neg (by omega)] at hJ
  exact rPl ⟨rfl, rfl, by rw [hJ]⟩
theorem siftDown_spec {n lo hi first : Nat} {cap : Nat} (hd : d.size = n) (hb : first + hi ≤ n) (hl : lo ≤ n) (hn : n ≤ 1000000000000) :
  SpecH Try.prog 184 [.slice (some ⟨r, 0, none⟩) n cap, .int .i64 lo, .int .i64 hi, .int .i64 first] μ (RowI h0 r ty rest d) fun v μ' h' => v = .tuple #[] ∧ μ' = μ ∧ h' = RowI h0 r ty rest (siftDown ltInt hi first lo d) := by
 refine SpecH.mk [] Try.func184 (by kernel_rfl) ?_
 generalize hD : siftDown ltInt hi first lo d = D
 refine lIn (fun p : Nat × Array Int => p.1 ≤ n ∧ p.2.size = n ∧ siftDown ltInt hi first p.1 p.2 = D)
  (fun (i, d) => ⟨[(0, .val (.slice (some ⟨r, 0, none⟩) n cap)), (2, .val (.int .i64 hi)), (3, .val (.int .i64 first)), (8, .val (.int .i64 i))], [], 0, μ, RowI h0 r ty rest d⟩) (fun p => hi - p.1)
  (lo, d) ⟨hl, hd, hD⟩ (fun (_, _) => ⟨rfl, rfl⟩) ⟨⟨rfl, rfl, rfl, rfl, trivial⟩, trivial, rfl, rfl⟩ ?_
 rintro ⟨i, d1⟩ ⟨hi1, hs, hJ⟩
 dsimp only at hi1 hs hJ
 rw [siftDown] at hJ
 refine nEq (x := ((2 * i : Nat) : Int)) (by rw [wrap64 (by omega) (by omega)]; omega) ?_
 refine nEq (x := ((2 * i + 1 : Nat) : Int)) (by rw [wrap64 (by omega) (by omega)]; omega) ?_
 refine ifd (fun h => ?_) (fun h => ?_)
 ·rw [dif_pos (by omega)] at hJ
  exact rPl ⟨rfl, rfl, by rw [hJ]⟩
 rw [dif_neg (by omega)] at hJ
 refine nEq (x := ((2 * i + 1 + 1 : Nat) : Int)) (by rw [wrap64 (by omega) (by omega)]; omega) ?_
 refine ifd (fun h2 => ?_) (fun h2 => ?_)
 ·refine nEq (x := ((first + (2 * i + 1) : Nat) : Int)) (by rw [wrap64 (by omega) (by omega)]; omega) ?_
  refine idxI (first + (2 * i + 1)) (by omega) (by omega) ?_
  refine rdI (by omega) ?_
  refine nEq (x := ((first + (2 * i + 1) : Nat) : Int)) (by rw [wrap64 (by omega) (by omega)]; omega) ?_
  refine nEq (x := ((first + (2 * i + 1) + 1 : Nat) : Int)) (by rw [wrap64 (by omega) (by omega)]; omega) ?_
  refine idxI (first + (2 * i + 1) + 1) (by omega) (by omega) ?_
  refine rdI (by omega) ?_
  refine cGv (Less_spec _ _) ?_
  have g : decide (2 * i + 1 + 1 < hi) = true := decide_eq_true (by omega)
  refine iIn (fun hl => ?_) (fun hl => ?_)
  ·rw [g, hl, Bool.and_self, if_pos rfl] at hJ
   refine nEq (x := ((2 * i + 2 : Nat) : Int)) (by rw [wrap64 (by omega) (by omega)]; omega) ?_
   refine nEq (x := ((first + i : Nat) : Int)) (by rw [wrap64 (by omega) (by omega)]; omega) ?_
   refine idxI (first + i) (by omega) (by omega) ?_
   refine rdI (by omega) ?_
   refine nEq (x := ((first + (2 * i + 2) : Nat) : Int)) (by rw [wrap64 (by omega) (by omega)]; omega) ?_
   refine idxI (first + (2 * i + 2)) (by omega) (by omega) ?_
   refine rdI (by omega) ?_
   refine cGv (Less_spec _ _) ?_
   refine iIn (fun hl => ?_) (fun hl => ?_)
   ·rw [if_pos (by simpa using hl)] at hJ
    exact rPl ⟨rfl, rfl, by rw [hJ]⟩
   ·rw [if_neg (by simpa using hl)] at hJ
    try rw [dif_pos (by omega)] at hJ
    refine nEq (x := ((first + i : Nat) : Int)) (by rw [wrap64 (by omega) (by omega)]; omega) ?_
    refine nEq (x := ((first + (2 * i + 2) : Nat) : Int)) (by rw [wrap64 (by omega) (by omega)]; omega) ?_
    refine nEq (x := ((first + (2 * i + 2) : Nat) : Int)) (by rw [wrap64 (by omega) (by omega)]; omega) ?_
    refine idxI (first + (2 * i + 2)) (by omega) (by omega) ?_
    refine rdI (by omega) ?_
    refine nEq (x := ((first + i : Nat) : Int)) (by rw [wrap64 (by omega) (by omega)]; omega) ?_
    refine idxI (first + i) (by omega) (by omega) ?_
    refine rdI (by omega) ?_
    refine idxI (first + i) (by omega) (by omega) ?_
    refine wrI (by omega) ?_
    refine idxI (first + (2 * i + 2)) (by omega) (by omega) ?_
    refine wrI (by simp; omega) ?_
    exact ⟨(2 * i + 2, swp d1 (first + i) (first + (2 * i + 2))), ⟨by dsimp only; omega, by dsimp only; rw [swp_size]; exact hs, hJ⟩, by dsimp only; omega, ⟨⟨rfl, rfl, rfl, rfl, trivial⟩, trivial, rfl, rfl⟩⟩
  ·rw [hl, Bool.and_false, if_neg (by simp)] at hJ
   refine nEq (x := ((first + i : Nat) : Int)) (by rw [wrap64 (by omega) (by omega)]; omega) ?_
   refine idxI (first + i) (by omega) (by omega) ?_
   refine rdI (by omega) ?_
   refine nEq (x := ((first + (2 * i + 1) : Nat) : Int)) (by rw [wrap64 (by omega) (by omega)]; omega) ?_
   refine idxI (first + (2 * i + 1)) (by omega) (by omega) ?_
   refine rdI (by omega) ?_
   refine cGv (Less_spec _ _) ?_
   refine iIn (fun hl => ?_) (fun hl => ?_)
   ·rw [if_pos (by simpa using hl)] at hJ
    exact rPl ⟨rfl, rfl, by rw [hJ]⟩
   ·rw [if_neg (by simpa using hl)] at hJ
    try rw [dif_pos (by omega)] at hJ
    refine nEq (x := ((first + i : Nat) : Int)) (by rw [wrap64 (by omega) (by omega)]; omega) ?_
    refine nEq (x := ((first + (2 * i + 1) : Nat) : Int)) (by rw [wrap64 (by omega) (by omega)]; omega) ?_
    refine nEq (x := ((first + (2 * i + 1) : Nat) : Int)) (by rw [wrap64 (by omega) (by omega)]; omega) ?_
    refine idxI (first + (2 * i + 1)) (by omega) (by omega) ?_
    refine rdI (by omega) ?_
    refine nEq (x := ((first + i : Nat) : Int)) (by rw [wrap64 (by omega) (by omega)]; omega) ?_
    refine idxI (first + i) (by omega) (by omega) ?_
    refine rdI (by omega) ?_
    refine idxI (first + i) (by omega) (by omega) ?_
    refine wrI (by omega) ?_
    refine idxI (first + (2 * i + 1)) (by omega) (by omega) ?_
    refine wrI (by simp; omega) ?_
    exact ⟨(2 * i + 1, swp d1 (first + i) (first + (2 * i + 1))), ⟨by dsimp only; omega, by dsimp only; rw [swp_size]; exact hs, hJ⟩, by dsimp only; omega, ⟨⟨rfl, rfl, rfl, rfl, trivial⟩, trivial, rfl, rfl⟩⟩
 ·have g : decide (2 * i + 1 + 1 < hi) = false := decide_eq_false (by omega)
  rw [g, Bool.false_and, if_neg (by simp)] at hJ
  refine nEq (x := ((first + i : Nat) : Int)) (by rw [wrap64 (by omega) (by omega)]; omega) ?_
  refine idxI (first + i) (by omega) (by omega) ?_
  refine rdI (by omega) ?_
  refine nEq (x := ((first + (2 * i + 1) : Nat) : Int)) (by rw [wrap64 (by omega) (by omega)]; omega) ?_
  refine idxI (first + (2 * i + 1)) (by omega) (by omega) ?_
  refine rdI (by omega) ?_
  refine cGv (Less_spec _ _) ?_
  refine iIn (fun hl => ?_) (fun hl => ?_)
  ·rw [if_pos (by simpa using hl)] at hJ
   exact rPl ⟨rfl, rfl, by rw [hJ]⟩
  ·rw [if_neg (by simpa using hl)] at hJ
   try rw [dif_pos (by omega)] at hJ
   refine nEq (x := ((first + i : Nat) : Int)) (by rw [wrap64 (by omega) (by omega)]; omega) ?_
   refine nEq (x := ((first + (2 * i + 1) : Nat) : Int)) (by rw [wrap64 (by omega) (by omega)]; omega) ?_
   refine nEq (x := ((first + (2 * i + 1) : Nat) : Int)) (by rw [wrap64 (by omega) (by omega)]; omega) ?_
   refine idxI (first + (2 * i + 1)) (by omega) (by omega) ?_
   refine rdI (by omega) ?_
   refine nEq (x := ((first + i : Nat) : Int)) (by rw [wrap64 (by omega) (by omega)]; omega) ?_
   refine idxI (first + i) (by omega) (by omega) ?_
   refine rdI (by omega) ?_
   refine idxI (first + i) (by omega) (by omega) ?_
   refine wrI (by omega) ?_
   refine idxI (first + (2 * i + 1)) (by omega) (by omega) ?_
   refine wrI (by simp; omega) ?_
   exact ⟨(2 * i + 1, swp d1 (first + i) (first + (2 * i + 1))), ⟨by dsimp only; omega, by dsimp only; rw [swp_size]; exact hs, hJ⟩, by dsimp only; omega, ⟨⟨rfl, rfl, rfl, rfl, trivial⟩, trivial, rfl, rfl⟩⟩
theorem siftDown_size (hi first : Nat) : ∀ (m root : Nat) (d : Array Int), hi - root ≤ m → (siftDown ltInt hi first root d).size = d.size := by
 intro m
 induction m with
 | zero =>
  intro root d h
  rw [siftDown, dif_pos (by omega)]
 | succ m ih =>
  intro root d h
  rw [siftDown]
  repeat' split
  all_goals first
   | rfl
   | (rw [ih _ _ (by omega), Go.Sort.swp_size])
theorem heapSort_spec {n a b : Nat} {cap : Nat} (hd : d.size = n) (ha : a < b) (hb : b ≤ n) (hn : n ≤ 1000000000000) :
  SpecH Try.prog 176 [.slice (some ⟨r, 0, none⟩) n cap, .int .i64 a, .int .i64 b] μ (RowI h0 r ty rest d) fun v μ' h' => v = .tuple #[] ∧ μ' = μ ∧ h' = RowI h0 r ty rest (heapSort ltInt d a b) := by
 refine SpecH.mk [] Try.func176 (by kernel_rfl) ?_
 rw [heapSort]
 generalize hD1 : heapBuild ltInt (b - a) a ((b - a - 1) / 2 + 1) d = D1
 generalize hD : heapPop ltInt a (b - a) D1 = D
 refine nEq (x := ((b - a : Nat) : Int)) (by rw [wrap64 (by omega) (by omega)]; omega) ?_
 refine nEq (x := ((b - a - 1 : Nat) : Int)) (by rw [wrap64 (by omega) (by omega)]; omega) ?_
 refine need_intro (by decide) ?_
 refine nEq (x := (((b - a - 1) / 2 + 1 : Nat) : Int) - 1) (by rw [Int.tdiv_eq_ediv_of_nonneg (by omega), wrap64 (by omega) (by omega)]; omega) ?_
 refine lIn (fun p : Nat × Array Int => p.1 ≤ b - a ∧ p.2.size = n ∧ heapBuild ltInt (b - a) a p.1 p.2 = D1)
  (fun (k, d) => ⟨[(0, .val (.slice (some ⟨r, 0, none⟩) n cap)), (6, .val (.int .i64 a)), (7, .val (.int .i64 0)), (8, .val (.int .i64 (b - a : Nat))), (9, .val (.int .i64 ((k : Int) - 1)))], [], 0, μ, RowI h0 r ty rest d⟩) (fun p => p.1)
  ((b - a - 1) / 2 + 1, d) ⟨by dsimp only; omega, hd, hD1⟩ (fun (_, _) => ⟨rfl, rfl⟩) ⟨⟨rfl, rfl, rfl, rfl, rfl, trivial⟩, trivial, rfl, rfl⟩ ?_
 rintro ⟨k, d1⟩ ⟨hk, hs, hJ⟩
 dsimp only at hk hs hJ
 refine ifd (fun h => ?_) (fun h => ?_)
 ·obtain ⟨k, rfl⟩ : ∃ m, k = m + 1 := ⟨k - 1, by omega⟩
  rw [heapBuild] at hJ
  have e : (((k + 1 : Nat) : Int) - 1) = (k : Nat) := by omega
  rw [e]
  refine cOw (siftDown_spec (lo := k) (hi := b - a) (first := a) hs (by omega) (by omega) hn) fun v μ' h' hle hap hR => ?_
  obtain ⟨rfl, e2, rfl⟩ := hR
  obtain rfl := e2.symm
  refine nEq (x := (k : Int) - 1) (by rw [wrap64 (by omega) (by omega)]) ?_
  exact ⟨(k, siftDown ltInt (b - a) a k d1), ⟨by dsimp only; omega, by dsimp only; rw [siftDown_size _ _ _ _ _ (Nat.le_refl _)]; exact hs, hJ⟩, by dsimp only; omega, ⟨⟨rfl, rfl, rfl, rfl, rfl, trivial⟩, trivial, rfl, rfl⟩⟩
 obtain rfl : k = 0 := by omega
 have hJ : d1 = D1 := hJ
 subst hJ
 refine nEq (x := ((b - a : Nat) : Int) - 1) (by rw [wrap64 (by omega) (by omega)]) ?_
 refine lIn (fun p : Nat × Array Int => p.1 ≤ b - a ∧ p.2.size = n ∧ heapPop ltInt a p.1 p.2 = D)
  (fun (k, d) => ⟨[(0, .val (.slice (some ⟨r, 0, none⟩) n cap)), (6, .val (.int .i64 a)), (7, .val (.int .i64 0)), (10, .val (.int .i64 ((k : Int) - 1)))], [], 0, μ, RowI h0 r ty rest d⟩) (fun p => p.1)
  (b - a, d1) ⟨by dsimp only; omega, hs, hD⟩ (fun (_, _) => ⟨rfl, rfl⟩) ⟨⟨rfl, rfl, rfl, rfl, trivial⟩, trivial, rfl, rfl⟩ ?_
 rintro ⟨k, d2⟩ ⟨hk, hs2, hJ⟩
 dsimp only at hk hs2 hJ
 refine ifd (fun h => ?_) (fun h => ?_)
 ·obtain ⟨k, rfl⟩ : ∃ m, k = m + 1 := ⟨k - 1, by omega⟩
  rw [heapPop] at hJ
  have e : (((k + 1 : Nat) : Int) - 1) = (k : Nat) := by omega
  rw [e]
  refine nEq (x := ((a + k : Nat) : Int)) (by rw [wrap64 (by omega) (by omega)]; omega) ?_
  refine nEq (x := ((a + k : Nat) : Int)) (by rw [wrap64 (by omega) (by omega)]; omega) ?_
  refine idxI (a + k) (by omega) (by omega) ?_
  refine rdI (by omega) ?_
  refine idxI (a) (by omega) (by omega) ?_
  refine rdI (by omega) ?_
  refine idxI (a) (by omega) (by omega) ?_
  refine wrI (by omega) ?_
  refine idxI (a + k) (by omega) (by omega) ?_
  refine wrI (by simp; omega) ?_
  refine cOw (siftDown_spec (d := swp d2 a (a + k)) (lo := 0) (hi := k) (first := a) ((Go.Sort.swp_size _ _ _).trans hs2) (by omega) (by omega) hn) fun v μ' h' hle hap hR => ?_
  obtain ⟨rfl, e2, rfl⟩ := hR
  obtain rfl := e2.symm
  refine nEq (x := (k : Int) - 1) (by rw [wrap64 (by omega) (by omega)]) ?_
  exact ⟨(k, _), ⟨by dsimp only; omega, by dsimp only; rw [siftDown_size _ _ _ _ _ (Nat.le_refl _), Go.Sort.swp_size]; exact hs2, hJ⟩, by dsimp only; omega, ⟨⟨rfl, rfl, rfl, rfl, trivial⟩, trivial, rfl, rfl⟩⟩
 obtain rfl : k = 0 := by omega
 have hJ : d2 = D := hJ
 subst hJ
 exact rPl ⟨rfl, rfl, rfl⟩
end
end Go.Vx
namespace Go.Vx
open Go.Proofs Classical
open Go.Sort
def RowS (h0 : Mem) (r : Nat) (ty : TypeId) (rest : List Value) (d : Array Int) (rs : Nat) (s : Int) : Mem := RowI (h0.set rs (.cells #[.int .i64 s] 3 (0, 0))) r ty rest d
section
variable {μ h0 : Mem} {r rs : Nat} {ty : TypeId} {rest : List Value} {d : Array Int} {s : Int}
theorem RowS.at (hne : rs ≠ r) : RowS h0 r ty rest d rs s rs = some (.cells #[.int .i64 s] 3 (0, 0)) := by
 rw [RowS, RowI, Mem.set_ne hne, Mem.set_at]
theorem rdS {K : List Value → Prop} (hne : rs ≠ r) (h : K [.int .i64 s]) : extVC μ (RowS h0 r ty rest d rs s) ⟨rs, 0, none⟩ 1 K := oIn _ rfl (box_at (RowS.at hne)) h
theorem Mem.set_comm {m : Mem} {a b : Nat} {x y : Obj} (h : a ≠ b) : (m.set a x).set b y = (m.set b y).set a x := by
 funext k
 simp only [Mem.set_get]
 by_cases h1 : k = b
 ·subst h1; rw [if_pos rfl, if_neg (fun e => h e.symm), if_pos rfl]
 ·rw [if_neg h1]
  by_cases h2 : k = a
  ·rw [if_pos h2, if_pos h2]
  ·rw [if_neg h2, if_neg h2, if_neg h1]
theorem wrS {v : Int} {K : Mem → Prop} (hne : rs ≠ r) (h : K (RowS h0 r ty rest d rs v)) : stoVC (RowS h0 r ty rest d rs s) ⟨rs, 0, none⟩ [.int .i64 v] K := by
 refine sIn [.int .i64 s] 3 (RowS.at hne) rfl (Nat.le_refl _) ?_
 have e : Mem.set (RowS h0 r ty rest d rs s) rs (.cells #[.int .i64 v] 3 (0, 0)) = RowS h0 r ty rest d rs v := by
  rw [RowS, RowI, Mem.set_comm (fun e => hne e.symm), Mem.set_set]
  rfl
 show K (Mem.set (RowS h0 r ty rest d rs s) rs (.cells #[.int .i64 v] 3 (0, 0)))
 rw [e]; exact h
theorem RowS.row (h0 : Mem) (r : Nat) (ty : TypeId) (rest : List Value) (d : Array Int) (rs : Nat) (s : Int) : RowS h0 r ty rest d rs s = RowI (h0.set rs (.cells #[.int .i64 s] 3 (0, 0))) r ty rest d := rfl
theorem order2_spec {n a b cap : Nat} (hne : rs ≠ r) (hd : d.size = n) (ha : a < n) (hb : b < n) :
  SpecH Try.prog 190 [.slice (some ⟨r, 0, none⟩) n cap, .int .i64 a, .int .i64 b, .pointer (some ⟨rs, 0, none⟩)] μ (RowS h0 r ty rest d rs s) fun v μ' h' =>
   ∃ x y : Nat, ((x = a ∧ y = b) ∨ (x = b ∧ y = a)) ∧ v = .tuple #[.int .i64 x, .int .i64 y] ∧ μ' = μ ∧ ∃ s', h' = RowS h0 r ty rest d rs s' := by
 refine SpecH.mk [] Try.func190 (by kernel_rfl) ?_
 refine idxI (b) (by omega) (by omega) ?_
 refine rdI (by omega) ?_
 refine idxI (a) (by omega) (by omega) ?_
 refine rdI (by omega) ?_
 refine cGv (Less_spec _ _) ?_
 refine iIn (fun hl => ?_) (fun hl => ?_)
 ·refine rdS hne ?_
  refine num_intro fun x _ => ?_
  refine wrS hne ?_
  exact rPl ⟨b, a, .inr ⟨rfl, rfl⟩, rfl, rfl, _, rfl⟩
 ·exact rPl ⟨a, b, .inl ⟨rfl, rfl⟩, rfl, rfl, _, rfl⟩
theorem median_spec {n a b c cap : Nat} (hne : rs ≠ r) (hd : d.size = n) (ha : a < n) (hb : b < n) (hc : c < n) :
  SpecH Try.prog 188 [.slice (some ⟨r, 0, none⟩) n cap, .int .i64 a, .int .i64 b, .int .i64 c, .pointer (some ⟨rs, 0, none⟩)] μ (RowS h0 r ty rest d rs s) fun v μ' h' =>
   ∃ x : Nat, (x = a ∨ x = b ∨ x = c) ∧ v = .int .i64 x ∧ μ' = μ ∧ ∃ s', h' = RowS h0 r ty rest d rs s' := by
 refine SpecH.mk [] Try.func188 (by kernel_rfl) ?_
 refine cOw (order2_spec hne hd ha hb) fun v μ' h' hle hap hR => ?_
 obtain ⟨x1, y1, o1, rfl, e1, s1, rfl⟩ := hR
 obtain rfl := e1.symm
 refine cOw (order2_spec (a := y1) (b := c) hne hd (by omega) hc) fun v μ' h' hle hap hR => ?_
 obtain ⟨x2, y2, o2, rfl, e2, s2, rfl⟩ := hR
 obtain rfl := e2.symm
 refine cOw (order2_spec (a := x1) (b := x2) hne hd (by omega) (by omega)) fun v μ' h' hle hap hR => ?_
 obtain ⟨x3, y3, o3, rfl, e3, s3, rfl⟩ := hR
 obtain rfl := e3.symm
 exact rPl ⟨y3, by omega, rfl, rfl, _, rfl⟩
theorem medianAdjacent_spec {n a cap : Nat} (hne : rs ≠ r) (hd : d.size = n) (ha : 1 ≤ a) (hb : a + 1 < n) (hn : n ≤ 1000000000000) :
  SpecH Try.prog 187 [.slice (some ⟨r, 0, none⟩) n cap, .int .i64 a, .pointer (some ⟨rs, 0, none⟩)] μ (RowS h0 r ty rest d rs s) fun v μ' h' =>
   ∃ x : Nat, (x + 1 = a ∨ x = a ∨ x = a + 1) ∧ v = .int .i64 x ∧ μ' = μ ∧ ∃ s', h' = RowS h0 r ty rest d rs s' := by
 refine SpecH.mk [] Try.func187 (by kernel_rfl) ?_
 refine nEq (x := ((a - 1 : Nat) : Int)) (by rw [wrap64 (by omega) (by omega)]; omega) ?_
 refine nEq (x := ((a + 1 : Nat) : Int)) (by rw [wrap64 (by omega) (by omega)]; omega) ?_
 refine cOw (median_spec (a := a - 1) (b := a) (c := a + 1) hne hd (by omega) (by omega) (by omega)) fun v μ' h' hle hap hR => ?_
 obtain ⟨x1, o1, rfl, e1, s1, rfl⟩ := hR
 obtain rfl := e1.symm
 exact rPl ⟨x1, by omega, rfl, rfl, _, rfl⟩
theorem RowS.parts (hne : rs ≠ r) (hs : h0 rs = none) : Parts (RowS h0 r ty rest d rs s) (Mem.nil.set rs (.cells #[.int .i64 s] 3 (0, 0))) (RowI h0 r ty rest d) := fun b => by
 by_cases h : b = rs
 ·subst h
  exact .inl ⟨by rw [RowS.at hne, Mem.set_at], by rw [RowI, Mem.set_ne hne]; exact hs⟩
 ·refine .inr ⟨?_, by rw [Mem.set_ne h]; rfl⟩
  rw [RowS, RowI, RowI]
  by_cases h2 : b = r
  ·subst h2; rw [Mem.set_at, Mem.set_at]
  ·rw [Mem.set_ne h2, Mem.set_ne h2, Mem.set_ne h]
set_option maxHeartbeats 4000000 in
theorem choosePivot_spec {n a b cap : Nat} (hr : h0 r = none) (hd : d.size = n) (ha : a < b) (hb : b ≤ n) (hn : n ≤ 1000000000000) :
  SpecH Try.prog 178 [.slice (some ⟨r, 0, none⟩) n cap, .int .i64 a, .int .i64 b] μ (RowI h0 r ty rest d) fun v _μ' h' =>
   ∃ p k : Nat, a ≤ p ∧ p < b ∧ k ≤ 2 ∧ v = .tuple #[.int .i64 p, .int .i64 k] ∧ h' = RowI h0 r ty rest d := by
 refine SpecH.mk [9] Try.func178 (by kernel_rfl) ?_
 refine nEq (x := ((b - a : Nat) : Int)) (by rw [wrap64 (by omega) (by omega)]; omega) ?_
 intro rs hm ho
 have hne : rs ≠ r := fun e => by
  subst e
  have : RowI h0 rs ty rest d rs = none := ho
  rw [RowI, Mem.set_at] at this; cases this
 have hs0 : h0 rs = none := by
  have : RowI h0 r ty rest d rs = none := ho
  rwa [RowI, Mem.set_ne hne] at this
 have e0 : Mem.set (RowI h0 r ty rest d) rs (.cells #[.int .i64 0] 3 (0, 0)) = RowS h0 r ty rest d rs 0 := by
  rw [RowS, RowI, RowI, Mem.set_comm (fun e => hne e.symm)]
 generalize hH : Mem.set (RowI h0 r ty rest d) rs _ = H
 obtain rfl : H = RowS h0 r ty rest d rs 0 := hH.symm.trans e0
 clear e0 hH ho hm
 refine need_intro (by decide) ?_
 refine nEq (x := (((b - a) / 4 : Nat) : Int)) (by rw [Int.tdiv_eq_ediv_of_nonneg (by omega), wrap64 (by omega) (by omega)]; omega) ?_
 refine nEq (x := (((b - a) / 4 * 1 : Nat) : Int)) (by rw [wrap64 (by omega) (by omega)]; omega) ?_
 refine nEq (x := ((a + (b - a) / 4 * 1 : Nat) : Int)) (by rw [wrap64 (by omega) (by omega)]; omega) ?_
 refine need_intro (by decide) ?_
 refine nEq (x := (((b - a) / 4 : Nat) : Int)) (by rw [Int.tdiv_eq_ediv_of_nonneg (by omega), wrap64 (by omega) (by omega)]; omega) ?_
 refine nEq (x := (((b - a) / 4 * 2 : Nat) : Int)) (by rw [wrap64 (by omega) (by omega)]; omega) ?_
 refine nEq (x := ((a + (b - a) / 4 * 2 : Nat) : Int)) (by rw [wrap64 (by omega) (by omega)]; omega) ?_
 refine need_intro (by decide) ?_
 refine nEq (x := (((b - a) / 4 : Nat) : Int)) (by rw [Int.tdiv_eq_ediv_of_nonneg (by omega), wrap64 (by omega) (by omega)]; omega) ?_
 refine nEq (x := (((b - a) / 4 * 3 : Nat) : Int)) (by rw [wrap64 (by omega) (by omega)]; omega) ?_
 refine nEq (x := ((a + (b - a) / 4 * 3 : Nat) : Int)) (by rw [wrap64 (by omega) (by omega)]; omega) ?_
 refine ifd (fun h8 => ?_) (fun h8 => ?_)
 ·refine ifd (fun h50 => ?_) (fun h50 => ?_)
  ·refine cOw (medianAdjacent_spec (a := a + (b - a) / 4 * 1) hne hd (by omega) (by omega) hn) fun v μ' h' hle hap hR => ?_
   obtain ⟨x1, o1, rfl, e1, s1, rfl⟩ := hR
   obtain rfl := e1.symm
   refine cOw (medianAdjacent_spec (a := a + (b - a) / 4 * 2) hne hd (by omega) (by omega) hn) fun v μ' h' hle hap hR => ?_
   obtain ⟨x2, o2, rfl, e1, s2, rfl⟩ := hR
   obtain rfl := e1.symm
   refine cOw (medianAdjacent_spec (a := a + (b - a) / 4 * 3) hne hd (by omega) (by omega) hn) fun v μ' h' hle hap hR => ?_
   obtain ⟨x3, o3, rfl, e1, s3, rfl⟩ := hR
   obtain rfl := e1.symm
   refine cOw (median_spec (a := x1) (b := x2) (c := x3) hne hd (by omega) (by omega) (by omega)) fun v μ' h' hle hap hR => ?_
   obtain ⟨x4, o4, rfl, e1, s4, rfl⟩ := hR
   obtain rfl := e1.symm
   refine rdS hne ?_
   refine ifd (fun h1 => ?_) (fun h1 => ?_)
   ·exact ret_own _ _ (RowS.parts hne hs0) ⟨x4, 1, by omega, by omega, by omega, rfl, rfl⟩
   refine ifd (fun h1 => ?_) (fun h1 => ?_)
   ·exact ret_own _ _ (RowS.parts hne hs0) ⟨x4, 2, by omega, by omega, by omega, rfl, rfl⟩
   exact ret_own _ _ (RowS.parts hne hs0) ⟨x4, 0, by omega, by omega, by omega, rfl, rfl⟩
  ·refine cOw (median_spec (a := a + (b - a) / 4 * 1) (b := a + (b - a) / 4 * 2) (c := a + (b - a) / 4 * 3) hne hd (by omega) (by omega) (by omega)) fun v μ' h' hle hap hR => ?_
   obtain ⟨x4, o4, rfl, e1, s4, rfl⟩ := hR
   obtain rfl := e1.symm
   refine rdS hne ?_
   refine ifd (fun h1 => ?_) (fun h1 => ?_)
   ·exact ret_own _ _ (RowS.parts hne hs0) ⟨x4, 1, by omega, by omega, by omega, rfl, rfl⟩
   refine ifd (fun h1 => ?_) (fun h1 => ?_)
   ·exact ret_own _ _ (RowS.parts hne hs0) ⟨x4, 2, by omega, by omega, by omega, rfl, rfl⟩
   exact ret_own _ _ (RowS.parts hne hs0) ⟨x4, 0, by omega, by omega, by omega, rfl, rfl⟩
 ·refine rdS hne ?_
  refine ifd (fun h1 => ?_) (fun h1 => ?_)
  ·exact ret_own _ _ (RowS.parts hne hs0) ⟨a + (b - a) / 4 * 2, 1, by omega, by omega, by omega, rfl, rfl⟩
  refine ifd (fun h1 => ?_) (fun h1 => ?_)
  ·exact ret_own _ _ (RowS.parts hne hs0) ⟨a + (b - a) / 4 * 2, 2, by omega, by omega, by omega, rfl, rfl⟩
  exact ret_own _ _ (RowS.parts hne hs0) ⟨a + (b - a) / 4 * 2, 0, by omega, by omega, by omega, rfl, rfl⟩
end
end Go.Vx
namespace Go.Vx
open Go.Proofs Classical
open Go.Sort
theorem bitsLen_shift {x k : Nat} (h : 2 ^ k ≤ x) : bitsLen x = bitsLen (x / 2 ^ k) + k := by
 have hpos : 0 < 2 ^ k := Nat.two_pow_pos k
 apply Nat.le_antisymm
 ·rw [bitsLen_le_iff, Nat.pow_add]
  have := lt_two_pow_bitsLen (x / 2 ^ k)
  rw [Nat.div_lt_iff_lt_mul hpos] at this
  exact this
 ·have h1 : k < bitsLen x := by
   rcases Nat.lt_or_ge k (bitsLen x) with h2 | h2
   ·exact h2
   ·have := (bitsLen_le_iff x k).1 h2; omega
  have h3 : bitsLen (x / 2 ^ k) ≤ bitsLen x - k := by
   rw [bitsLen_le_iff, Nat.div_lt_iff_lt_mul hpos, ← Nat.pow_add]
   have : bitsLen x - k + k = bitsLen x := by omega
   rw [this]; exact lt_two_pow_bitsLen x
  omega
section
variable {μ : Mem}
theorem Len64_spec {x : Nat} (hx : x < 18446744073709551616) : Gives Try.prog 151 [.int .u64 x] μ (.int .i64 (bitsLen x)) := by
 obtain ⟨L, hL⟩ : ∃ L, L = bitsLen x := ⟨_, rfl⟩
 rw [← hL]
 refine Spec.mk Try.func151 (by kernel_rfl) ?_
 refine ifd (fun h1 => ?_) (fun h1 => ?_)
 ·refine need_intro (by decide) ?_
  refine nEq (x := ((x / 4294967296 : Nat) : Int)) (by
   show (x : Int).fdiv 4294967296 = _
   rw [Int.fdiv_eq_ediv_of_nonneg _ (by decide)]; rfl) ?_
  have b1 : bitsLen x = bitsLen (x / 4294967296) + 32 := bitsLen_shift (k := 32) (by omega)
  have b2 : x / 4294967296 < 4294967296 := by omega
  generalize x / 4294967296 = y at *
  refine ifd (fun h2 => ?_) (fun h2 => ?_)
  ·refine need_intro (by decide) ?_
   refine nEq (x := ((y / 65536 : Nat) : Int)) (by
    show (y : Int).fdiv 65536 = _
    rw [Int.fdiv_eq_ediv_of_nonneg _ (by decide)]; rfl) ?_
   have b3 : bitsLen y = bitsLen (y / 65536) + 16 := bitsLen_shift (k := 16) (by omega)
   have b4 : y / 65536 < 65536 := by omega
   generalize y / 65536 = z at *
   refine nEq (x := 32 + 16) (by decide) ?_
   refine ifd (fun h3 => ?_) (fun h3 => ?_)
   ·refine need_intro (by decide) ?_
    refine nEq (x := ((z / 256 : Nat) : Int)) (by
     show (z : Int).fdiv 256 = _
     rw [Int.fdiv_eq_ediv_of_nonneg _ (by decide)]; rfl) ?_
    have b5 : bitsLen z = bitsLen (z / 256) + 8 := bitsLen_shift (k := 8) (by omega)
    have b6 : z / 256 < 256 := by omega
    generalize z / 256 = w at *
    refine nEq (x := 32 + 16 + 8) (by decide) ?_
    have b7 : bitsLen w ≤ 8 := (bitsLen_le_iff w 8).2 b6
    refine nEq (x := (w : Int)) (by
     show (w : Int) % 256 = _
     omega) ?_
    refine byte_intro w (UInt8.ofNat (bitsLen w)) rfl ?_ ?_
    ·clear b5 b7
     try clear hw
     revert w
     decide +kernel
    refine nEq (x := (bitsLen w : Int)) (by
     rw [UInt8.toNat_ofNat', Nat.mod_eq_of_lt (by omega), wrap64 (by omega) (by omega)]) ?_
    refine nEq (x := (L : Int)) (by rw [wrap64 (by omega) (by omega)]; omega) ?_
    exact rGv rfl rfl
   ·obtain ⟨w, hw⟩ : ∃ w, w = z := ⟨_, rfl⟩
    have b5 : bitsLen z = bitsLen w + 0 := by rw [hw]; rfl
    have b6 : w < 256 := by omega
    rw [← hw]
    have b7 : bitsLen w ≤ 8 := (bitsLen_le_iff w 8).2 b6
    refine nEq (x := (w : Int)) (by
     show (w : Int) % 256 = _
     omega) ?_
    refine byte_intro w (UInt8.ofNat (bitsLen w)) rfl ?_ ?_
    ·clear b5 b7
     try clear hw
     revert w
     decide +kernel
    refine nEq (x := (bitsLen w : Int)) (by
     rw [UInt8.toNat_ofNat', Nat.mod_eq_of_lt (by omega), wrap64 (by omega) (by omega)]) ?_
    refine nEq (x := (L : Int)) (by rw [wrap64 (by omega) (by omega)]; omega) ?_
    exact rGv rfl rfl
  ·obtain ⟨z, hz⟩ : ∃ z, z = y := ⟨_, rfl⟩
   have b3 : bitsLen y = bitsLen z + 0 := by rw [hz]; rfl
   have b4 : z < 65536 := by omega
   rw [← hz]
   refine ifd (fun h3 => ?_) (fun h3 => ?_)
   ·refine need_intro (by decide) ?_
    refine nEq (x := ((z / 256 : Nat) : Int)) (by
     show (z : Int).fdiv 256 = _
     rw [Int.fdiv_eq_ediv_of_nonneg _ (by decide)]; rfl) ?_
    have b5 : bitsLen z = bitsLen (z / 256) + 8 := bitsLen_shift (k := 8) (by omega)
    have b6 : z / 256 < 256 := by omega
    generalize z / 256 = w at *
    refine nEq (x := 32 + 8) (by decide) ?_
    have b7 : bitsLen w ≤ 8 := (bitsLen_le_iff w 8).2 b6
    refine nEq (x := (w : Int)) (by
     show (w : Int) % 256 = _
     omega) ?_
    refine byte_intro w (UInt8.ofNat (bitsLen w)) rfl ?_ ?_
    ·clear b5 b7
     try clear hw
     revert w
     decide +kernel
    refine nEq (x := (bitsLen w : Int)) (by
     rw [UInt8.toNat_ofNat', Nat.mod_eq_of_lt (by omega), wrap64 (by omega) (by omega)]) ?_
    refine nEq (x := (L : Int)) (by rw [wrap64 (by omega) (by omega)]; omega) ?_
    exact rGv rfl rfl
   ·obtain ⟨w, hw⟩ : ∃ w, w = z := ⟨_, rfl⟩
    have b5 : bitsLen z = bitsLen w + 0 := by rw [hw]; rfl
    have b6 : w < 256 := by omega
    rw [← hw]
    have b7 : bitsLen w ≤ 8 := (bitsLen_le_iff w 8).2 b6
    refine nEq (x := (w : Int)) (by
     show (w : Int) % 256 = _
     omega) ?_
    refine byte_intro w (UInt8.ofNat (bitsLen w)) rfl ?_ ?_
    ·clear b5 b7
     try clear hw
     revert w
     decide +kernel
    refine nEq (x := (bitsLen w : Int)) (by
     rw [UInt8.toNat_ofNat', Nat.mod_eq_of_lt (by omega), wrap64 (by omega) (by omega)]) ?_
    refine nEq (x := (L : Int)) (by rw [wrap64 (by omega) (by omega)]; omega) ?_
    exact rGv rfl rfl
 ·obtain ⟨y, hy⟩ : ∃ y, y = x := ⟨_, rfl⟩
  have b1 : bitsLen x = bitsLen y + 0 := by rw [hy]; rfl
  have b2 : y < 4294967296 := by omega
  rw [← hy]
  refine ifd (fun h2 => ?_) (fun h2 => ?_)
  ·refine need_intro (by decide) ?_
   refine nEq (x := ((y / 65536 : Nat) : Int)) (by
    show (y : Int).fdiv 65536 = _
    rw [Int.fdiv_eq_ediv_of_nonneg _ (by decide)]; rfl) ?_
   have b3 : bitsLen y = bitsLen (y / 65536) + 16 := bitsLen_shift (k := 16) (by omega)
   have b4 : y / 65536 < 65536 := by omega
   generalize y / 65536 = z at *
   refine nEq (x := 0 + 16) (by decide) ?_
   refine ifd (fun h3 => ?_) (fun h3 => ?_)
   ·refine need_intro (by decide) ?_
    refine nEq (x := ((z / 256 : Nat) : Int)) (by
     show (z : Int).fdiv 256 = _
     rw [Int.fdiv_eq_ediv_of_nonneg _ (by decide)]; rfl) ?_
    have b5 : bitsLen z = bitsLen (z / 256) + 8 := bitsLen_shift (k := 8) (by omega)
    have b6 : z / 256 < 256 := by omega
    generalize z / 256 = w at *
    refine nEq (x := 0 + 16 + 8) (by decide) ?_
    have b7 : bitsLen w ≤ 8 := (bitsLen_le_iff w 8).2 b6
    refine nEq (x := (w : Int)) (by
     show (w : Int) % 256 = _
     omega) ?_
    refine byte_intro w (UInt8.ofNat (bitsLen w)) rfl ?_ ?_
    ·clear b5 b7
     try clear hw
     revert w
     decide +kernel
    refine nEq (x := (bitsLen w : Int)) (by
     rw [UInt8.toNat_ofNat', Nat.mod_eq_of_lt (by omega), wrap64 (by omega) (by omega)]) ?_
    refine nEq (x := (L : Int)) (by rw [wrap64 (by omega) (by omega)]; omega) ?_
    exact rGv rfl rfl
   ·obtain ⟨w, hw⟩ : ∃ w, w = z := ⟨_, rfl⟩
    have b5 : bitsLen z = bitsLen w + 0 := by rw [hw]; rfl
    have b6 : w < 256 := by omega
    rw [← hw]
    have b7 : bitsLen w ≤ 8 := (bitsLen_le_iff w 8).2 b6
    refine nEq (x := (w : Int)) (by
     show (w : Int) % 256 = _
     omega) ?_
    refine byte_intro w (UInt8.ofNat (bitsLen w)) rfl ?_ ?_
    ·clear b5 b7
     try clear hw
     revert w
     decide +kernel
    refine nEq (x := (bitsLen w : Int)) (by
     rw [UInt8.toNat_ofNat', Nat.mod_eq_of_lt (by omega), wrap64 (by omega) (by omega)]) ?_
    refine nEq (x := (L : Int)) (by rw [wrap64 (by omega) (by omega)]; omega) ?_
    exact rGv rfl rfl
  ·obtain ⟨z, hz⟩ : ∃ z, z = y := ⟨_, rfl⟩
   have b3 : bitsLen y = bitsLen z + 0 := by rw [hz]; rfl
   have b4 : z < 65536 := by omega
   rw [← hz]
   refine ifd (fun h3 => ?_) (fun h3 => ?_)
   ·refine need_intro (by decide) ?_
    refine nEq (x := ((z / 256 : Nat) : Int)) (by
     show (z : Int).fdiv 256 = _
     rw [Int.fdiv_eq_ediv_of_nonneg _ (by decide)]; rfl) ?_
    have b5 : bitsLen z = bitsLen (z / 256) + 8 := bitsLen_shift (k := 8) (by omega)
    have b6 : z / 256 < 256 := by omega
    generalize z / 256 = w at *
    refine nEq (x := 0 + 8) (by decide) ?_
    have b7 : bitsLen w ≤ 8 := (bitsLen_le_iff w 8).2 b6
    refine nEq (x := (w : Int)) (by
     show (w : Int) % 256 = _
     omega) ?_
    refine byte_intro w (UInt8.ofNat (bitsLen w)) rfl ?_ ?_
    ·clear b5 b7
     try clear hw
     revert w
     decide +kernel
    refine nEq (x := (bitsLen w : Int)) (by
     rw [UInt8.toNat_ofNat', Nat.mod_eq_of_lt (by omega), wrap64 (by omega) (by omega)]) ?_
    refine nEq (x := (L : Int)) (by rw [wrap64 (by omega) (by omega)]; omega) ?_
    exact rGv rfl rfl
   ·obtain ⟨w, hw⟩ : ∃ w, w = z := ⟨_, rfl⟩
    have b5 : bitsLen z = bitsLen w + 0 := by rw [hw]; rfl
    have b6 : w < 256 := by omega
    rw [← hw]
    have b7 : bitsLen w ≤ 8 := (bitsLen_le_iff w 8).2 b6
    refine nEq (x := (w : Int)) (by
     show (w : Int) % 256 = _
     omega) ?_
    refine byte_intro w (UInt8.ofNat (bitsLen w)) rfl ?_ ?_
    ·clear b5 b7
     try clear hw
     revert w
     decide +kernel
    refine nEq (x := (bitsLen w : Int)) (by
     rw [UInt8.toNat_ofNat', Nat.mod_eq_of_lt (by omega), wrap64 (by omega) (by omega)]) ?_
    refine nEq (x := (L : Int)) (by rw [wrap64 (by omega) (by omega)]; omega) ?_
    exact rGv rfl rfl
theorem Len_spec {x : Nat} (hx : x < 18446744073709551616) : Gives Try.prog 120 [.int .u64 x] μ (.int .i64 (bitsLen x)) := by
 refine Spec.mk Try.func120 (by kernel_rfl) ?_
 refine cGv (Len64_spec hx) ?_
 exact rGv rfl rfl
theorem and_le {x m : Int} (h0 : 0 ≤ m) (h1 : m < 18446744073709551616) : 0 ≤ bits .and .u64 x m ∧ bits .and .u64 x m ≤ m := by
 have e : bits .and .u64 x m = (((BitVec.ofInt 64 x &&& BitVec.ofInt 64 m).toNat : Nat) : Int) % 18446744073709551616 := rfl
 have h2 : (BitVec.ofInt 64 m).toNat = m.toNat := by
  rw [BitVec.toNat_ofInt]
  congr 1
  exact Int.emod_eq_of_lt h0 h1
 have h3 : (BitVec.ofInt 64 x &&& BitVec.ofInt 64 m).toNat ≤ m.toNat := by
  rw [BitVec.toNat_and, h2]
  exact Nat.and_le_right
 rw [e]
 omega
end
end Go.Vx
namespace Go.Vx
open Go.Proofs Classical
open Go.Sort
section
variable {μ h0 : Mem} {r rs : Nat} {ty : TypeId} {rest : List Value} {d : Array Int} {s : Int}
theorem nextPowerOfTwo_spec {x : Nat} (hx : x ≤ 1000000000000) : Gives Try.prog 185 [.int .i64 x] μ (.int .u64 ((2 ^ bitsLen x : Nat) : Int)) := by
 refine Spec.mk Try.func185 (by kernel_rfl) ?_
 have h1 : bitsLen x ≤ 40 := (bitsLen_le_iff x 40).2 (by omega)
 have h2 : 2 ^ bitsLen x ≤ 2 ^ 40 := Nat.pow_le_pow_right (by decide) h1
 have h3 : (2 : Nat) ^ 40 = 1099511627776 := by decide
 refine nEq (x := (x : Int)) (by
  show (x : Int) % 18446744073709551616 = _
  omega) ?_
 refine cGv (Len_spec (by omega)) ?_
 refine need_intro (by omega) ?_
 refine nEq (x := ((2 ^ bitsLen x : Nat) : Int)) (by
  have e : min ((bitsLen x : Int).toNat) IntKind.u64.bits = bitsLen x := by
   show min ((bitsLen x : Int).toNat) 64 = bitsLen x
   omega
  rw [e]
  have h4 : ((2 : Int) ^ bitsLen x) = ((2 ^ bitsLen x : Nat) : Int) := by rw [Int.natCast_pow]; rfl
  show (1 * (2 : Int) ^ bitsLen x) % 18446744073709551616 = _
  rw [Int.one_mul, h4]
  generalize 2 ^ bitsLen x = P at *
  omega) ?_
 exact rGv rfl rfl
def RowX (h0 : Mem) (r : Nat) (ty : TypeId) (rest : List Value) (d : Array Int) (rs : Nat) (s : Int) : Mem := RowI (h0.set rs (.cells #[.int .u64 s] 190 (0, 0))) r ty rest d
theorem RowX.at (hne : rs ≠ r) : RowX h0 r ty rest d rs s rs = some (.cells #[.int .u64 s] 190 (0, 0)) := by
 rw [RowX, RowI, Mem.set_ne hne, Mem.set_at]
theorem rdX {K : List Value → Prop} (hne : rs ≠ r) (h : K [.int .u64 s]) : extVC μ (RowX h0 r ty rest d rs s) ⟨rs, 0, none⟩ 1 K := oIn _ rfl (box_at (RowX.at hne)) h
theorem wrX {v : Int} {K : Mem → Prop} (hne : rs ≠ r) (h : K (RowX h0 r ty rest d rs v)) : stoVC (RowX h0 r ty rest d rs s) ⟨rs, 0, none⟩ [.int .u64 v] K := by
 refine sIn [.int .u64 s] 190 (RowX.at hne) rfl (Nat.le_refl _) ?_
 have e : Mem.set (RowX h0 r ty rest d rs s) rs (.cells #[.int .u64 v] 190 (0, 0)) = RowX h0 r ty rest d rs v := by
  rw [RowX, RowI, Mem.set_comm (fun e => hne e.symm), Mem.set_set]
  rfl
 show K (Mem.set (RowX h0 r ty rest d rs s) rs (.cells #[.int .u64 v] 190 (0, 0)))
 rw [e]; exact h
theorem RowX.parts (hne : rs ≠ r) (hs : h0 rs = none) : Parts (RowX h0 r ty rest d rs s) (Mem.nil.set rs (.cells #[.int .u64 s] 190 (0, 0))) (RowI h0 r ty rest d) := fun b => by
 by_cases h : b = rs
 ·subst h
  exact .inl ⟨by rw [RowX.at hne, Mem.set_at], by rw [RowI, Mem.set_ne hne]; exact hs⟩
 ·refine .inr ⟨?_, by rw [Mem.set_ne h]; rfl⟩
  rw [RowX, RowI, RowI]
  by_cases h2 : b = r
  ·subst h2; rw [Mem.set_at, Mem.set_at]
  ·rw [Mem.set_ne h2, Mem.set_ne h2, Mem.set_ne h]
theorem Next_spec (hne : rs ≠ r) : SpecH Try.prog 186 [.pointer (some ⟨rs, 0, none⟩)] μ (RowX h0 r ty rest d rs s) fun v μ' h' => ∃ s', v = .int .u64 s' ∧ μ' = μ ∧ h' = RowX h0 r ty rest d rs s' := by
 refine SpecH.mk [] Try.func186 (by kernel_rfl) ?_
 refine rdX hne ?_
 refine rdX hne ?_
 refine need_intro (by decide) ?_
 refine num_intro fun _ _ => ?_
 refine num_intro fun _ _ => ?_
 refine wrX hne ?_
 refine rdX hne ?_
 refine rdX hne ?_
 refine need_intro (by decide) ?_
 refine num_intro fun _ _ => ?_
 refine num_intro fun _ _ => ?_
 refine wrX hne ?_
 refine rdX hne ?_
 refine rdX hne ?_
 refine need_intro (by decide) ?_
 refine num_intro fun _ _ => ?_
 refine num_intro fun _ _ => ?_
 refine wrX hne ?_
 refine rdX hne ?_
 exact rPl ⟨_, rfl, rfl, rfl⟩
theorem breakPatterns_spec {n a b cap : Nat} (hr : h0 r = none) (hd : d.size = n) (ha : a + 8 ≤ b) (hb : b ≤ n) (hn : n ≤ 1000000000000) :
  SpecH Try.prog 177 [.slice (some ⟨r, 0, none⟩) n cap, .int .i64 a, .int .i64 b] μ (RowI h0 r ty rest d) fun v _μ' h' => v = .tuple #[] ∧ ∃ d', PermIn a b d d' ∧ h' = RowI h0 r ty rest d' := by
 refine SpecH.mk [7] Try.func177 (by kernel_rfl) ?_
 refine nEq (x := ((b - a : Nat) : Int)) (by rw [wrap64 (by omega) (by omega)]; omega) ?_
 refine ifd (fun h8 => ?_) (fun h8 => by omega)
 refine num_intro fun s0 _ => ?_
 intro rs hm ho
 have hne : rs ≠ r := fun e => by
  subst e
  have : RowI h0 rs ty rest d rs = none := ho
  rw [RowI, Mem.set_at] at this; cases this
 have hs0 : h0 rs = none := by
  have : RowI h0 r ty rest d rs = none := ho
  rwa [RowI, Mem.set_ne hne] at this
 have e0 : Mem.set (RowI h0 r ty rest d) rs (.cells #[.int .u64 0] 190 (0, 0)) = RowX h0 r ty rest d rs 0 := by
  rw [RowX, RowI, RowI, Mem.set_comm (fun e => hne e.symm)]
 generalize hH : Mem.set (RowI h0 r ty rest d) rs _ = H
 obtain rfl : H = RowX h0 r ty rest d rs 0 := hH.symm.trans e0
 clear e0 hH ho hm
 refine wrX hne ?_
 refine cGv (nextPowerOfTwo_spec (x := b - a) (by omega)) ?_
 have hP1 : 1 ≤ 2 ^ bitsLen (b - a) := Nat.two_pow_pos _
 have hP2 : 2 ^ bitsLen (b - a) ≤ 2 * (b - a) := two_pow_bitsLen_le (by omega)
 generalize 2 ^ bitsLen (b - a) = P at *
 refine need_intro (by decide) ?_
 refine nEq (x := (((b - a) / 4 : Nat) : Int)) (by rw [Int.tdiv_eq_ediv_of_nonneg (by omega), wrap64 (by omega) (by omega)]; omega) ?_
 refine nEq (x := (((b - a) / 4 * 2 : Nat) : Int)) (by rw [wrap64 (by omega) (by omega)]; omega) ?_
 refine nEq (x := ((a + (b - a) / 4 * 2 : Nat) : Int)) (by rw [wrap64 (by omega) (by omega)]; omega) ?_
 refine nEq (x := ((a + (b - a) / 4 * 2 - 1 : Nat) : Int)) (by rw [wrap64 (by omega) (by omega)]; omega) ?_
 refine lIn (fun p : Nat × Array Int × Int => a + (b - a) / 4 * 2 ≤ p.1 + 1 ∧ p.1 ≤ a + (b - a) / 4 * 2 + 2 ∧ PermIn a b d p.2.1)
  (fun (i, d, s) => ⟨[(0, .val (.slice (some ⟨r, 0, none⟩) n cap)), (1, .val (.int .i64 a)), (6, .val (.int .i64 (b - a : Nat))), (7, .val (.pointer (some ⟨rs, 0, none⟩))), (8, .val (.int .u64 P)), (9, .val (.int .i64 i))], [], 0, μ, RowX h0 r ty rest d rs s⟩) (fun p => a + (b - a) / 4 * 2 + 3 - p.1)
  (a + (b - a) / 4 * 2 - 1, d, s0) ⟨by dsimp only; omega, by dsimp only; omega, permIn_refl _ _ _⟩ (fun (_, _, _) => ⟨rfl, rfl⟩) ⟨⟨rfl, rfl, rfl, rfl, rfl, rfl, trivial⟩, trivial, rfl, rfl⟩ ?_
 rintro ⟨i, d1, s1⟩ ⟨hi1, hi2, hp⟩
 dsimp only at hi1 hi2 hp
 have hs1 : d1.size = n := hp.1.trans hd
 refine need_intro (by decide) ?_
 refine nEq (x := (((b - a) / 4 : Nat) : Int)) (by rw [Int.tdiv_eq_ediv_of_nonneg (by omega), wrap64 (by omega) (by omega)]; omega) ?_
 refine nEq (x := (((b - a) / 4 * 2 : Nat) : Int)) (by rw [wrap64 (by omega) (by omega)]; omega) ?_
 refine nEq (x := ((a + (b - a) / 4 * 2 : Nat) : Int)) (by rw [wrap64 (by omega) (by omega)]; omega) ?_
 refine nEq (x := ((a + (b - a) / 4 * 2 + 1 : Nat) : Int)) (by rw [wrap64 (by omega) (by omega)]; omega) ?_
 refine ifd (fun hle => ?_) (fun hle => ?_)
 rotate_left
 ·exact ret_own _ _ (RowX.parts hne hs0) ⟨rfl, d1, hp, rfl⟩
 refine cOw (Next_spec hne) fun v μ' h' hle' hap hR => ?_
 obtain ⟨s2, rfl, e1, rfl⟩ := hR
 obtain rfl := e1.symm
 refine nEq (x := ((P - 1 : Nat) : Int)) (by
  show ((P : Int) - 1) % 18446744073709551616 = _
  omega) ?_
 refine num_intro fun y hy => ?_
 have w_ := and_le (x := s2) (m := ((P - 1 : Nat) : Int)) (by omega) (by omega)
 obtain ⟨hy1, hy2⟩ := w_
 rw [← hy] at hy1 hy2
 have w_ := Int.eq_ofNat_of_zero_le hy1
 obtain ⟨o, rfl⟩ := w_
 clear hy
 refine nEq (x := (o : Int)) (wrap64 (by omega) (by omega)) ?_
 refine ifd (fun ho => ?_) (fun ho => ?_)
 ·refine nEq (x := ((o - (b - a) : Nat) : Int)) (by rw [wrap64 (by omega) (by omega)]; omega) ?_
  have ho2 : o - (b - a) < b - a := by omega
  generalize o - (b - a) = q at *
  refine nEq (x := ((a + q : Nat) : Int)) (by rw [wrap64 (by omega) (by omega)]; omega) ?_
  refine nEq (x := ((a + q : Nat) : Int)) (by rw [wrap64 (by omega) (by omega)]; omega) ?_
  refine idxI (a + q) (by omega) (by omega) ?_
  refine rdI (by omega) ?_
  refine idxI (i) (by omega) (by omega) ?_
  refine rdI (by omega) ?_
  refine idxI (i) (by omega) (by omega) ?_
  refine wrI (by omega) ?_
  refine idxI (a + q) (by omega) (by omega) ?_
  refine wrI (by simp; omega) ?_
  refine nEq (x := ((i + 1 : Nat) : Int)) (by rw [wrap64 (by omega) (by omega)]; omega) ?_
  exact ⟨(i + 1, swp d1 i (a + q), s2), ⟨by dsimp only; omega, by dsimp only; omega, permIn_trans _ _ _ _ _ hp (swp_permIn d1 a b i (a + q) (by omega) (by omega) (by omega) (by omega) (by omega))⟩, by dsimp only; omega, ⟨⟨rfl, rfl, rfl, rfl, rfl, rfl, trivial⟩, trivial, rfl, rfl⟩⟩
 ·refine nEq (x := ((a + o : Nat) : Int)) (by rw [wrap64 (by omega) (by omega)]; omega) ?_
  refine nEq (x := ((a + o : Nat) : Int)) (by rw [wrap64 (by omega) (by omega)]; omega) ?_
  refine idxI (a + o) (by omega) (by omega) ?_
  refine rdI (by omega) ?_
  refine idxI (i) (by omega) (by omega) ?_
  refine rdI (by omega) ?_
  refine idxI (i) (by omega) (by omega) ?_
  refine wrI (by omega) ?_
  refine idxI (a + o) (by omega) (by omega) ?_
  refine wrI (by simp; omega) ?_
  refine nEq (x := ((i + 1 : Nat) : Int)) (by rw [wrap64 (by omega) (by omega)]; omega) ?_
  exact ⟨(i + 1, swp d1 i (a + o), s2), ⟨by dsimp only; omega, by dsimp only; omega, permIn_trans _ _ _ _ _ hp (swp_permIn d1 a b i (a + o) (by omega) (by omega) (by omega) (by omega) (by omega))⟩, by dsimp only; omega, ⟨⟨rfl, rfl, rfl, rfl, rfl, rfl, trivial⟩, trivial, rfl, rfl⟩⟩
end
end Go.Vx
namespace Go.Vx
open Go.Proofs Classical
open Go.Sort
section
variable {μ h0 : Mem} {r : Nat} {ty : TypeId} {rest : List Value} {d : Array Int}
theorem partitionEqual_spec {n a b pivot : Nat} {cap : Nat} (hd : d.size = n) (hap : a ≤ pivot) (hpb : pivot < b) (hb : b ≤ n) (hn : n ≤ 1000000000000) :
  SpecH Try.prog 182 [.slice (some ⟨r, 0, none⟩) n cap, .int .i64 a, .int .i64 b, .int .i64 pivot] μ (RowI h0 r ty rest d) fun v μ' h' => v = .int .i64 (partitionEqual ltInt d a b pivot).1 ∧ μ' = μ ∧ h' = RowI h0 r ty rest (partitionEqual ltInt d a b pivot).2 := by
 refine SpecH.mk [] Try.func182 (by kernel_rfl) ?_
 rw [partitionEqual]
 generalize hR : partEqLoop ltInt a (a + 1) (b - 1) (swp d a pivot) = R
 refine idxI (pivot) (by omega) (by omega) ?_
 refine rdI (by omega) ?_
 refine idxI (a) (by omega) (by omega) ?_
 refine rdI (by omega) ?_
 refine idxI (a) (by omega) (by omega) ?_
 refine wrI (by omega) ?_
 refine idxI (pivot) (by omega) (by omega) ?_
 refine wrI (by simp; omega) ?_
 refine nEq (x := ((a + 1 : Nat) : Int)) (by rw [wrap64 (by omega) (by omega)]; omega) ?_
 refine nEq (x := ((b - 1 : Nat) : Int)) (by rw [wrap64 (by omega) (by omega)]; omega) ?_
 refine lIn (fun p : Nat × Nat × Array Int => a < p.1 ∧ p.1 ≤ p.2.1 + 2 ∧ p.2.1 < b ∧ p.2.2.size = n ∧ partEqLoop ltInt a p.1 p.2.1 p.2.2 = R)
  (fun (i, j, d) => ⟨[(0, .val (.slice (some ⟨r, 0, none⟩) n cap)), (1, .val (.int .i64 a)), (9, .val (.int .i64 i)), (10, .val (.int .i64 j))], [], 0, μ, RowI h0 r ty rest d⟩) (fun p => p.2.1 + 1 - p.1)
  (a + 1, b - 1, swp d a pivot) ⟨by dsimp only; omega, by dsimp only; omega, by dsimp only; omega, by dsimp only; rw [Go.Sort.swp_size]; exact hd, hR⟩ (fun (_, _, _) => ⟨rfl, rfl⟩) ⟨⟨rfl, rfl, rfl, rfl, trivial⟩, trivial, rfl, rfl⟩ ?_
 clear hR
 rintro ⟨i, j, d1⟩ ⟨hai, hij0, hjb, hs, hR⟩
 dsimp only at hai hij0 hjb hs hR
 rw [partEqLoop_eq] at hR
 generalize hU : scanUp (fun x => !ltInt d1[a]! x) d1 j i = U at *
 refine lIn (fun i' : Nat => i ≤ i' ∧ i' ≤ j + 2 ∧ scanUp (fun x => !ltInt d1[a]! x) d1 j i' = U) (fun i' => ⟨[(0, .val (.slice (some ⟨r, 0, none⟩) n cap)), (1, .val (.int .i64 a)), (9, .val (.int .i64 i')), (10, .val (.int .i64 j))], [], 0, μ, RowI h0 r ty rest d1⟩) (fun i' => j + 1 - i')
  i ⟨by omega, by omega, hU⟩ (fun _ => ⟨rfl, rfl⟩) ⟨⟨rfl, rfl, rfl, rfl, trivial⟩, trivial, rfl, rfl⟩ ?_
 clear hU
 rintro i' ⟨h1, h2, hU⟩
 rw [scanUp] at hU
 refine ifd (fun hij => ?_) (fun hij => ?_)
 refine idxI (a) (by omega) (by omega) ?_
 refine rdI (by omega) ?_
 refine idxI (i') (by omega) (by omega) ?_
 refine rdI (by omega) ?_
 refine cGv (Less_spec _ _) ?_
 refine iIn (fun hl => ?_) (fun hl => ?_)
 ·rw [if_pos (by simp only [Bool.and_eq_true, decide_eq_true_eq]; exact ⟨by omega, hl⟩)] at hU
  refine nEq (x := ((i' + 1 : Nat) : Int)) (by rw [wrap64 (by omega) (by omega)]; omega) ?_
  exact ⟨i' + 1, ⟨by omega, by omega, hU⟩, by omega, ⟨⟨rfl, rfl, rfl, rfl, trivial⟩, trivial, rfl, rfl⟩⟩
 rw [if_neg (by simp only [Bool.and_eq_true, hl]; simp)] at hU
 rotate_left
 rw [if_neg (by simp; omega)] at hU
 obtain rfl := hU
 rotate_left
 obtain rfl := hU
 rotate_left
 all_goals
  generalize hV : scanDown (fun x => ltInt d1[a]! x) d1 i' j = V at *
  refine lIn (fun j' : Nat => j' ≤ j ∧ 0 ≤ j' ∧ scanDown (fun x => ltInt d1[a]! x) d1 i' j' = V) (fun j' => ⟨[(0, .val (.slice (some ⟨r, 0, none⟩) n cap)), (1, .val (.int .i64 a)), (9, .val (.int .i64 i')), (10, .val (.int .i64 j'))], [], 0, μ, RowI h0 r ty rest d1⟩) (fun j' => j')
   j ⟨by omega, by omega, hV⟩ (fun _ => ⟨rfl, rfl⟩) ⟨⟨rfl, rfl, rfl, rfl, trivial⟩, trivial, rfl, rfl⟩ ?_
  clear hV
  rintro j' ⟨g1, g2, hV⟩
  refine ifd (fun hij2 => ?_) (fun hij2 => ?_)
  obtain ⟨k, rfl⟩ : ∃ k, j' = k + 1 := ⟨j' - 1, by omega⟩
  rw [scanDown] at hV
  refine idxI (a) (by omega) (by omega) ?_
  refine rdI (by omega) ?_
  refine idxI (k + 1) (by omega) (by omega) ?_
  refine rdI (by omega) ?_
  refine cGv (Less_spec _ _) ?_
  refine iIn (fun hl => ?_) (fun hl => ?_)
  ·rw [if_pos (by simp only [Bool.and_eq_true, decide_eq_true_eq]; exact ⟨by omega, hl⟩)] at hV
   refine nEq (x := ((k : Nat) : Int)) (by rw [wrap64 (by omega) (by omega)]; omega) ?_
   exact ⟨k, ⟨by omega, by omega, hV⟩, by omega, ⟨⟨rfl, rfl, rfl, rfl, trivial⟩, trivial, rfl, rfl⟩⟩
  rw [if_neg (by simp only [Bool.and_eq_true, hl]; simp)] at hV
  obtain rfl := hV
  generalize k + 1 = j' at *
  rotate_left
  replace hV : j' = V := by
   cases j' with
   | zero => exact hV
   | succ k => rwa [scanDown, if_neg (by simp; omega)] at hV
  obtain rfl := hV
  rotate_left
 all_goals
  refine ifd (fun hgt => ?_) (fun hgt => ?_)
  ·rw [if_pos (by omega)] at hR
   subst hR
   exact rPl ⟨rfl, rfl, rfl⟩
  ·rw [if_neg (by omega)] at hR
   refine idxI (j') (by omega) (by omega) ?_
   refine rdI (by omega) ?_
   refine idxI (i') (by omega) (by omega) ?_
   refine rdI (by omega) ?_
   refine idxI (i') (by omega) (by omega) ?_
   refine wrI (by omega) ?_
   refine idxI (j') (by omega) (by omega) ?_
   refine wrI (by simp; omega) ?_
   refine nEq (x := ((i' + 1 : Nat) : Int)) (by rw [wrap64 (by omega) (by omega)]; omega) ?_
   refine nEq (x := ((j' - 1 : Nat) : Int)) (by rw [wrap64 (by omega) (by omega)]; omega) ?_
   exact ⟨(i' + 1, j' - 1, swp d1 i' j'), ⟨by dsimp only; omega, by dsimp only; omega, by dsimp only; omega, by dsimp only; rw [Go.Sort.swp_size]; exact hs, hR⟩, by dsimp only; omega, ⟨⟨rfl, rfl, rfl, rfl, trivial⟩, trivial, rfl, rfl⟩⟩
set_option maxHeartbeats 4000000 in
theorem partition_spec {n a b pivot : Nat} {cap : Nat} (hd : d.size = n) (hap : a ≤ pivot) (hpb : pivot < b) (hb : b ≤ n) (hn : n ≤ 1000000000000) :
  SpecH Try.prog 183 [.slice (some ⟨r, 0, none⟩) n cap, .int .i64 a, .int .i64 b, .int .i64 pivot] μ (RowI h0 r ty rest d) fun v μ' h' => (∃ ap, v = .tuple #[.int .i64 (partition ltInt d a b pivot).1, .bool ap]) ∧ μ' = μ ∧ h' = RowI h0 r ty rest (partition ltInt d a b pivot).2.2 := by
 refine SpecH.mk [] Try.func183 (by kernel_rfl) ?_
 rw [partition_fst, partition_arr]
 have hsz : ∀ m i j (d : Array Int), j + 1 - i ≤ m → (partLoop ltInt a i j d).2.size = d.size := fun m => by
  induction m with
  | zero =>
   intro i j d h
   rw [partLoop_eq]
   have h1 := scanUp_ge (fun x => ltInt x d[a]!) d j i
   have h2 := scanDown_le (fun x => !ltInt x d[a]!) d (scanUp (fun x => ltInt x d[a]!) d j i) j
   rw [if_pos (by omega)]
  | succ m ih =>
   intro i j d h
   rw [partLoop_eq]
   split
   ·rfl
   ·rename_i hg
    have := partLoop_guard ltInt a i j d hg
    rw [ih _ _ _ (by omega), Go.Sort.swp_size]
 have hRs := hsz _ (a + 1) (b - 1) (swp d a pivot) (Nat.le_refl _)
 rw [Go.Sort.swp_size] at hRs
 generalize hR : partLoop ltInt a (a + 1) (b - 1) (swp d a pivot) = R at *
 refine idxI (pivot) (by omega) (by omega) ?_
 refine rdI (by omega) ?_
 refine idxI (a) (by omega) (by omega) ?_
 refine rdI (by omega) ?_
 refine idxI (a) (by omega) (by omega) ?_
 refine wrI (by omega) ?_
 refine idxI (pivot) (by omega) (by omega) ?_
 refine wrI (by simp; omega) ?_
 refine nEq (x := ((a + 1 : Nat) : Int)) (by rw [wrap64 (by omega) (by omega)]; omega) ?_
 refine nEq (x := ((b - 1 : Nat) : Int)) (by rw [wrap64 (by omega) (by omega)]; omega) ?_
 have hs : (swp d a pivot).size = n := by rw [Go.Sort.swp_size]; exact hd
 have hsw : swp d a pivot = (d.setIfInBounds a d[pivot]!).setIfInBounds pivot d[a]! := rfl
 rw [hsw] at hR hs
 generalize (d.setIfInBounds a d[pivot]!).setIfInBounds pivot d[a]! = d1 at *
 clear hsw hsz
 obtain ⟨i, hi⟩ : ∃ i, i = a + 1 := ⟨_, rfl⟩
 obtain ⟨j, hj⟩ : ∃ j, j = b - 1 := ⟨_, rfl⟩
 have hai : a < i := by omega
 have hij0 : i ≤ j + 2 := by omega
 have hjb : j < b := by omega
 rw [← hi, ← hj] at hR ⊢
 clear hi hj
 rw [partLoop_eq] at hR
 generalize hU : scanUp (fun x => ltInt x d1[a]!) d1 j i = U at *
 refine lIn (fun i' : Nat => i ≤ i' ∧ i' ≤ j + 2 ∧ scanUp (fun x => ltInt x d1[a]!) d1 j i' = U) (fun i' => ⟨[(0, .val (.slice (some ⟨r, 0, none⟩) n cap)), (1, .val (.int .i64 a)), (10, .val (.int .i64 i')), (11, .val (.int .i64 j))], [], 0, μ, RowI h0 r ty rest d1⟩) (fun i' => j + 1 - i')
  i ⟨by omega, by omega, hU⟩ (fun _ => ⟨rfl, rfl⟩) ⟨⟨rfl, rfl, rfl, rfl, trivial⟩, trivial, rfl, rfl⟩ ?_
 clear hU
 rintro i' ⟨h1, h2, hU⟩
 rw [scanUp] at hU
 refine ifd (fun hij => ?_) (fun hij => ?_)
 refine idxI (i') (by omega) (by omega) ?_
 refine rdI (by omega) ?_
 refine idxI (a) (by omega) (by omega) ?_
 refine rdI (by omega) ?_
 refine cGv (Less_spec _ _) ?_
 refine iIn (fun hl => ?_) (fun hl => ?_)
 ·rw [if_pos (by simp only [Bool.and_eq_true, decide_eq_true_eq]; exact ⟨by omega, hl⟩)] at hU
  refine nEq (x := ((i' + 1 : Nat) : Int)) (by rw [wrap64 (by omega) (by omega)]; omega) ?_
  exact ⟨i' + 1, ⟨by omega, by omega, hU⟩, by omega, ⟨⟨rfl, rfl, rfl, rfl, trivial⟩, trivial, rfl, rfl⟩⟩
 rw [if_neg (by simp only [Bool.and_eq_true, hl]; simp)] at hU
 rotate_left
 rw [if_neg (by simp; omega)] at hU
 obtain rfl := hU
 rotate_left
 obtain rfl := hU
 rotate_left
 all_goals
  generalize hV : scanDown (fun x => !ltInt x d1[a]!) d1 i' j = V at *
  refine lIn (fun j' : Nat => j' ≤ j ∧ 0 ≤ j' ∧ scanDown (fun x => !ltInt x d1[a]!) d1 i' j' = V) (fun j' => ⟨[(0, .val (.slice (some ⟨r, 0, none⟩) n cap)), (1, .val (.int .i64 a)), (10, .val (.int .i64 i')), (11, .val (.int .i64 j'))], [], 0, μ, RowI h0 r ty rest d1⟩) (fun j' => j')
   j ⟨by omega, by omega, hV⟩ (fun _ => ⟨rfl, rfl⟩) ⟨⟨rfl, rfl, rfl, rfl, trivial⟩, trivial, rfl, rfl⟩ ?_
  clear hV
  rintro j' ⟨g1, g2, hV⟩
  refine ifd (fun hij2 => ?_) (fun hij2 => ?_)
  obtain ⟨k, rfl⟩ : ∃ k, j' = k + 1 := ⟨j' - 1, by omega⟩
  rw [scanDown] at hV
  refine idxI (k + 1) (by omega) (by omega) ?_
  refine rdI (by omega) ?_
  refine idxI (a) (by omega) (by omega) ?_
  refine rdI (by omega) ?_
  refine cGv (Less_spec _ _) ?_
  refine iIn (fun hl => ?_) (fun hl => ?_)
  ·rw [if_pos (by simp only [Bool.and_eq_true, decide_eq_true_eq]; exact ⟨by omega, hl⟩)] at hV
   refine nEq (x := ((k : Nat) : Int)) (by rw [wrap64 (by omega) (by omega)]; omega) ?_
   exact ⟨k, ⟨by omega, by omega, hV⟩, by omega, ⟨⟨rfl, rfl, rfl, rfl, trivial⟩, trivial, rfl, rfl⟩⟩
  rw [if_neg (by simp only [Bool.and_eq_true, hl]; simp)] at hV
  obtain rfl := hV
  generalize k + 1 = j' at *
  rotate_left
  replace hV : j' = V := by
   cases j' with
   | zero => exact hV
   | succ k => rwa [scanDown, if_neg (by simp; omega)] at hV
  obtain rfl := hV
  rotate_left
 all_goals
  refine ifd (fun hgt => ?_) (fun hgt => ?_)
  ·rw [if_pos (by omega)] at hR
   subst hR
   refine idxI (a) (by omega) (by omega) ?_
   refine rdI (by omega) ?_
   refine idxI (j') (by omega) (by omega) ?_
   refine rdI (by omega) ?_
   refine idxI (j') (by omega) (by omega) ?_
   refine wrI (by omega) ?_
   refine idxI (a) (by omega) (by omega) ?_
   refine wrI (by simp; omega) ?_
   exact rPl ⟨⟨_, rfl⟩, rfl, rfl⟩
  ·rw [if_neg (by omega)] at hR
   refine idxI (j') (by omega) (by omega) ?_
   refine rdI (by omega) ?_
   refine idxI (i') (by omega) (by omega) ?_
   refine rdI (by omega) ?_
   refine idxI (i') (by omega) (by omega) ?_
   refine wrI (by omega) ?_
   refine idxI (j') (by omega) (by omega) ?_
   refine wrI (by simp; omega) ?_
   refine nEq (x := ((i' + 1 : Nat) : Int)) (by rw [wrap64 (by omega) (by omega)]; omega) ?_
   refine nEq (x := ((j' - 1 : Nat) : Int)) (by rw [wrap64 (by omega) (by omega)]; omega) ?_
   refine lIn (fun p : Nat × Nat × Array Int => a < p.1 ∧ p.1 ≤ p.2.1 + 2 ∧ p.2.1 < b ∧ p.2.2.size = n ∧ partLoop ltInt a p.1 p.2.1 p.2.2 = R)
    (fun (i, j, d) => ⟨[(0, .val (.slice (some ⟨r, 0, none⟩) n cap)), (1, .val (.int .i64 a)), (10, .val (.int .i64 i)), (11, .val (.int .i64 j))], [], 0, μ, RowI h0 r ty rest d⟩) (fun p => p.2.1 + 1 - p.1)
    (i' + 1, j' - 1, swp d1 i' j') ⟨by dsimp only; omega, by dsimp only; omega, by dsimp only; omega, by dsimp only; rw [Go.Sort.swp_size]; exact hs, hR⟩ (fun (_, _, _) => ⟨rfl, rfl⟩) ⟨⟨rfl, rfl, rfl, rfl, trivial⟩, trivial, rfl, rfl⟩ ?_
   clear hR hgt hs hai hij0 hjb h1 h2 g1 g2
   rintro ⟨i, j, d1⟩ ⟨hai, hij0, hjb, hs, hR⟩
   dsimp only at hai hij0 hjb hs hR
   rw [partLoop_eq] at hR
   generalize hU : scanUp (fun x => ltInt x d1[a]!) d1 j i = U at *
   refine lIn (fun i' : Nat => i ≤ i' ∧ i' ≤ j + 2 ∧ scanUp (fun x => ltInt x d1[a]!) d1 j i' = U) (fun i' => ⟨[(0, .val (.slice (some ⟨r, 0, none⟩) n cap)), (1, .val (.int .i64 a)), (10, .val (.int .i64 i')), (11, .val (.int .i64 j))], [], 0, μ, RowI h0 r ty rest d1⟩) (fun i' => j + 1 - i')
    i ⟨by omega, by omega, hU⟩ (fun _ => ⟨rfl, rfl⟩) ⟨⟨rfl, rfl, rfl, rfl, trivial⟩, trivial, rfl, rfl⟩ ?_
   clear hU
   rintro i' ⟨h1, h2, hU⟩
   rw [scanUp] at hU
   refine ifd (fun hij => ?_) (fun hij => ?_)
   refine idxI (i') (by omega) (by omega) ?_
   refine rdI (by omega) ?_
   refine idxI (a) (by omega) (by omega) ?_
   refine rdI (by omega) ?_
   refine cGv (Less_spec _ _) ?_
   refine iIn (fun hl => ?_) (fun hl => ?_)
   ·rw [if_pos (by simp only [Bool.and_eq_true, decide_eq_true_eq]; exact ⟨by omega, hl⟩)] at hU
    refine nEq (x := ((i' + 1 : Nat) : Int)) (by rw [wrap64 (by omega) (by omega)]; omega) ?_
    exact ⟨i' + 1, ⟨by omega, by omega, hU⟩, by omega, ⟨⟨rfl, rfl, rfl, rfl, trivial⟩, trivial, rfl, rfl⟩⟩
   rw [if_neg (by simp only [Bool.and_eq_true, hl]; simp)] at hU
   rotate_left
   rw [if_neg (by simp; omega)] at hU
   obtain rfl := hU
   rotate_left
   obtain rfl := hU
   rotate_left
   all_goals
    generalize hV : scanDown (fun x => !ltInt x d1[a]!) d1 i' j = V at *
    refine lIn (fun j' : Nat => j' ≤ j ∧ 0 ≤ j' ∧ scanDown (fun x => !ltInt x d1[a]!) d1 i' j' = V) (fun j' => ⟨[(0, .val (.slice (some ⟨r, 0, none⟩) n cap)), (1, .val (.int .i64 a)), (10, .val (.int .i64 i')), (11, .val (.int .i64 j'))], [], 0, μ, RowI h0 r ty rest d1⟩) (fun j' => j')
     j ⟨by omega, by omega, hV⟩ (fun _ => ⟨rfl, rfl⟩) ⟨⟨rfl, rfl, rfl, rfl, trivial⟩, trivial, rfl, rfl⟩ ?_
    clear hV
    rintro j' ⟨g1, g2, hV⟩
    refine ifd (fun hij2 => ?_) (fun hij2 => ?_)
    obtain ⟨k, rfl⟩ : ∃ k, j' = k + 1 := ⟨j' - 1, by omega⟩
    rw [scanDown] at hV
    refine idxI (k + 1) (by omega) (by omega) ?_
    refine rdI (by omega) ?_
    refine idxI (a) (by omega) (by omega) ?_
    refine rdI (by omega) ?_
    refine cGv (Less_spec _ _) ?_
    refine iIn (fun hl => ?_) (fun hl => ?_)
    ·rw [if_pos (by simp only [Bool.and_eq_true, decide_eq_true_eq]; exact ⟨by omega, hl⟩)] at hV
     refine nEq (x := ((k : Nat) : Int)) (by rw [wrap64 (by omega) (by omega)]; omega) ?_
     exact ⟨k, ⟨by omega, by omega, hV⟩, by omega, ⟨⟨rfl, rfl, rfl, rfl, trivial⟩, trivial, rfl, rfl⟩⟩
    rw [if_neg (by simp only [Bool.and_eq_true, hl]; simp)] at hV
    obtain rfl := hV
    generalize k + 1 = j' at *
    rotate_left
    replace hV : j' = V := by
     cases j' with
     | zero => exact hV
     | succ k => rwa [scanDown, if_neg (by simp; omega)] at hV
    obtain rfl := hV
    rotate_left
   all_goals
    refine ifd (fun hgt => ?_) (fun hgt => ?_)
    ·rw [if_pos (by omega)] at hR
     subst hR
     refine idxI (a) (by omega) (by omega) ?_
     refine rdI (by omega) ?_
     refine idxI (j') (by omega) (by omega) ?_
     refine rdI (by omega) ?_
     refine idxI (j') (by omega) (by omega) ?_
     refine wrI (by omega) ?_
     refine idxI (a) (by omega) (by omega) ?_
     refine wrI (by simp; omega) ?_
     exact rPl ⟨⟨_, rfl⟩, rfl, rfl⟩
    ·rw [if_neg (by omega)] at hR
     refine idxI (j') (by omega) (by omega) ?_
     refine rdI (by omega) ?_
     refine idxI (i') (by omega) (by omega) ?_
     refine rdI (by omega) ?_
     refine idxI (i') (by omega) (by omega) ?_
     refine wrI (by omega) ?_
     refine idxI (j') (by omega) (by omega) ?_
     refine wrI (by simp; omega) ?_
     refine nEq (x := ((i' + 1 : Nat) : Int)) (by rw [wrap64 (by omega) (by omega)]; omega) ?_
     refine nEq (x := ((j' - 1 : Nat) : Int)) (by rw [wrap64 (by omega) (by omega)]; omega) ?_
     exact ⟨(i' + 1, j' - 1, swp d1 i' j'), ⟨by dsimp only; omega, by dsimp only; omega, by dsimp only; omega, by dsimp only; rw [Go.Sort.swp_size]; exact hs, hR⟩, by dsimp only; omega, ⟨⟨rfl, rfl, rfl, rfl, trivial⟩, trivial, rfl, rfl⟩⟩
end
end Go.Vx
namespace Go.Vx
open Go.Proofs Classical
open Go.Sort
section
variable {μ h0 : Mem} {r : Nat} {ty : TypeId} {rest : List Value} {d : Array Int}
set_option maxHeartbeats 8000000 in
theorem partialInsertionSort_spec {n a b : Nat} {cap : Nat} (hd : d.size = n) (ha : a < b) (hb : b ≤ n) (hn : n ≤ 1000000000000) :
  SpecH Try.prog 180 [.slice (some ⟨r, 0, none⟩) n cap, .int .i64 a, .int .i64 b] μ (RowI h0 r ty rest d) fun v μ' h' => v = .bool (partialInsertionSort ltInt d a b).2 ∧ μ' = μ ∧ h' = RowI h0 r ty rest (partialInsertionSort ltInt d a b).1 := by
 refine SpecH.mk [] Try.func180 (by kernel_rfl) ?_
 rw [partialInsertionSort]
 generalize hR : partialIns ltInt a b 5 (a + 1) d = R
 refine nEq (x := ((a + 1 : Nat) : Int)) (by rw [wrap64 (by omega) (by omega)]; omega) ?_
 refine lIn (fun p : Nat × Nat × Array Int => p.1 ≤ 5 ∧ a < p.2.1 ∧ p.2.1 ≤ b ∧ p.2.2.size = n ∧ partialIns ltInt a b p.1 p.2.1 p.2.2 = R)
  (fun (t, i, d) => ⟨[(0, .val (.slice (some ⟨r, 0, none⟩) n cap)), (1, .val (.int .i64 a)), (2, .val (.int .i64 b)), (7, .val (.int .i64 i)), (8, .val (.int .i64 (5 - (t : Int))))], [], 0, μ, RowI h0 r ty rest d⟩) (fun p => p.1)
  (5, a + 1, d) ⟨by dsimp only; omega, by dsimp only; omega, by dsimp only; omega, hd, hR⟩ (fun (_, _, _) => ⟨rfl, rfl⟩) ⟨⟨rfl, rfl, rfl, rfl, rfl, trivial⟩, trivial, rfl, rfl⟩ ?_
 clear hR
 rintro ⟨t, i, d1⟩ ⟨ht, hai, hib, hs, hR⟩
 dsimp only at ht hai hib hs hR
 refine ifd (fun h5 => ?_) (fun h5 => ?_)
 rotate_left
 ·obtain rfl : t = 0 := by omega
  rw [partialIns] at hR
  subst hR
  exact rPl ⟨rfl, rfl, rfl⟩
 obtain ⟨t, rfl⟩ : ∃ k, t = k + 1 := ⟨t - 1, by omega⟩
 rw [partialIns_succ] at hR
 generalize hS : scanSorted ltInt d1 b i = S at *
 refine lIn (fun i' : Nat => i ≤ i' ∧ i' ≤ b ∧ scanSorted ltInt d1 b i' = S) (fun i' => ⟨[(0, .val (.slice (some ⟨r, 0, none⟩) n cap)), (1, .val (.int .i64 a)), (2, .val (.int .i64 b)), (7, .val (.int .i64 i')), (8, .val (.int .i64 (5 - ((t + 1 : Nat) : Int))))], [], 0, μ, RowI h0 r ty rest d1⟩) (fun i' => b - i')
  i ⟨by omega, by omega, hS⟩ (fun _ => ⟨rfl, rfl⟩) ⟨⟨rfl, rfl, rfl, rfl, rfl, trivial⟩, trivial, rfl, rfl⟩ ?_
 clear hS
 rintro i' ⟨h1, h2, hS⟩
 rw [scanSorted] at hS
 refine ifd (fun hlt => ?_) (fun hlt => ?_)
 rotate_left
 ·rw [if_neg (by simp; omega)] at hS
  obtain rfl := hS
  rw [if_pos (by omega)] at hR
  subst hR
  refine ifd (fun _ => ?_) (fun h => absurd (by omega) h)
  exact rPl ⟨rfl, rfl, rfl⟩
 refine idxI (i') (by omega) (by omega) ?_
 refine rdI (by omega) ?_
 refine nEq (x := ((i' - 1 : Nat) : Int)) (by rw [wrap64 (by omega) (by omega)]; omega) ?_
 refine idxI (i' - 1) (by omega) (by omega) ?_
 refine rdI (by omega) ?_
 refine cGv (Less_spec _ _) ?_
 refine iIn (fun hl => ?_) (fun hl => ?_)
 ·rw [if_pos (by simp only [Bool.and_eq_true, decide_eq_true_eq]; exact ⟨by omega, hl⟩)] at hS
  refine nEq (x := ((i' + 1 : Nat) : Int)) (by rw [wrap64 (by omega) (by omega)]; omega) ?_
  exact ⟨i' + 1, ⟨by omega, by omega, hS⟩, by omega, ⟨⟨rfl, rfl, rfl, rfl, rfl, trivial⟩, trivial, rfl, rfl⟩⟩
 rw [if_neg (by simp only [Bool.and_eq_true, hl]; simp)] at hS
 obtain rfl := hS
 refine ifd (fun h => absurd h (by omega)) (fun _ => ?_)
 rw [if_neg (by omega)] at hR
 refine nEq (x := ((b - a : Nat) : Int)) (by rw [wrap64 (by omega) (by omega)]; omega) ?_
 refine ifd (fun h50 => ?_) (fun h50 => ?_)
 ·rw [if_pos (by omega)] at hR
  subst hR
  exact rPl ⟨rfl, rfl, rfl⟩
 rw [if_neg (by omega)] at hR
 refine nEq (x := ((i' - 1 : Nat) : Int)) (by rw [wrap64 (by omega) (by omega)]; omega) ?_
 refine nEq (x := ((i' - 1 : Nat) : Int)) (by rw [wrap64 (by omega) (by omega)]; omega) ?_
 refine idxI (i' - 1) (by omega) (by omega) ?_
 refine rdI (by omega) ?_
 refine idxI (i') (by omega) (by omega) ?_
 refine rdI (by omega) ?_
 refine idxI (i') (by omega) (by omega) ?_
 refine wrI (by omega) ?_
 refine idxI (i' - 1) (by omega) (by omega) ?_
 refine wrI (by simp; omega) ?_
 have hsw : swp d1 i' (i' - 1) = (d1.setIfInBounds i' d1[i' - 1]!).setIfInBounds (i' - 1) d1[i']! := rfl
 have hs2 : (swp d1 i' (i' - 1)).size = n := by rw [Go.Sort.swp_size]; exact hs
 rw [hsw] at hR hs2
 generalize (d1.setIfInBounds i' d1[i' - 1]!).setIfInBounds (i' - 1) d1[i']! = d2 at *
 clear hsw
 refine nEq (x := ((i' - a : Nat) : Int)) (by rw [wrap64 (by omega) (by omega)]; omega) ?_
 unfold fixDown at hR
 refine ifd (fun hd2 => ?_) (fun hd2 => ?_)
 ·rw [if_pos (by omega)] at hR
  refine nEq (x := ((i' - 1 : Nat) : Int)) (by rw [wrap64 (by omega) (by omega)]; omega) ?_
  generalize hD : shiftDown ltInt (i' - 1) d2 = D2 at *
  refine lIn (fun p : Nat × Array Int => p.1 ≤ i' - 1 ∧ p.2.size = n ∧ shiftDown ltInt p.1 p.2 = D2) (fun (j, d) => ⟨[(0, .val (.slice (some ⟨r, 0, none⟩) n cap)), (1, .val (.int .i64 a)), (2, .val (.int .i64 b)), (7, .val (.int .i64 i')), (8, .val (.int .i64 (5 - ((t + 1 : Nat) : Int)))), (9, .val (.int .i64 j))], [], 0, μ, RowI h0 r ty rest d⟩) (fun p => p.1)
   (i' - 1, d2) ⟨by dsimp only; omega, hs2, hD⟩ (fun (_, _) => ⟨rfl, rfl⟩) ⟨⟨rfl, rfl, rfl, rfl, rfl, rfl, trivial⟩, trivial, rfl, rfl⟩ ?_
  clear hD
  rintro ⟨j, d3⟩ ⟨hj, hs3, hD⟩
  dsimp only at hj hs3 hD
  refine ifd (fun hj1 => ?_) (fun hj1 => ?_)
  ·obtain ⟨k, rfl⟩ : ∃ k, j = k + 1 := ⟨j - 1, by omega⟩
   rw [shiftDown] at hD
   refine idxI (k + 1) (by omega) (by omega) ?_
   refine rdI (by omega) ?_
   refine nEq (x := ((k : Nat) : Int)) (by rw [wrap64 (by omega) (by omega)]; omega) ?_
   refine idxI (k) (by omega) (by omega) ?_
   refine rdI (by omega) ?_
   refine cGv (Less_spec _ _) ?_
   refine iIn (fun hl2 => ?_) (fun hl2 => ?_)
   ·rw [if_pos hl2] at hD
    obtain rfl := hD
    refine nEq (x := ((b - i' : Nat) : Int)) (by rw [wrap64 (by omega) (by omega)]; omega) ?_
    unfold fixUp at hR
    refine ifd (fun hu2 => ?_) (fun hu2 => ?_)
    ·rw [if_pos (by omega)] at hR
     refine nEq (x := ((i' + 1 : Nat) : Int)) (by rw [wrap64 (by omega) (by omega)]; omega) ?_
     generalize hE : shiftUp ltInt b (i' + 1) d3 = D4 at *
     refine lIn (fun p : Nat × Array Int => i' + 1 ≤ p.1 ∧ p.1 ≤ b + 1 ∧ p.2.size = n ∧ shiftUp ltInt b p.1 p.2 = D4) (fun (j, d) => ⟨[(0, .val (.slice (some ⟨r, 0, none⟩) n cap)), (1, .val (.int .i64 a)), (2, .val (.int .i64 b)), (7, .val (.int .i64 i')), (8, .val (.int .i64 (5 - ((t + 1 : Nat) : Int)))), (10, .val (.int .i64 j))], [], 0, μ, RowI h0 r ty rest d⟩) (fun p => b - p.1)
      (i' + 1, d3) ⟨by dsimp only; omega, by dsimp only; omega, hs3, hE⟩ (fun (_, _) => ⟨rfl, rfl⟩) ⟨⟨rfl, rfl, rfl, rfl, rfl, rfl, trivial⟩, trivial, rfl, rfl⟩ ?_
     clear hE
     rintro ⟨j2, d5⟩ ⟨hj2, hjb2, hs5, hE⟩
     dsimp only at hj2 hjb2 hs5 hE
     rw [shiftUp] at hE
     refine ifd (fun hj1 => ?_) (fun hj1 => ?_)
     ·rw [if_pos (by omega)] at hE
      refine idxI (j2) (by omega) (by omega) ?_
      refine rdI (by omega) ?_
      refine nEq (x := ((j2 - 1 : Nat) : Int)) (by rw [wrap64 (by omega) (by omega)]; omega) ?_
      refine idxI (j2 - 1) (by omega) (by omega) ?_
      refine rdI (by omega) ?_
      refine cGv (Less_spec _ _) ?_
      refine iIn (fun hl3 => ?_) (fun hl3 => ?_)
      ·rw [if_pos hl3] at hE
       obtain rfl := hE
       refine nEq (x := 5 - (t : Int)) (by rw [wrap64 (by omega) (by omega)]; omega) ?_
       exact ⟨(t, i', d5), ⟨by dsimp only; omega, by dsimp only; omega, by dsimp only; omega, hs5, hR⟩, by dsimp only; omega, ⟨⟨rfl, rfl, rfl, rfl, rfl, trivial⟩, trivial, rfl, rfl⟩⟩
      ·rw [if_neg (by simp only [hl3]; simp)] at hE
       refine nEq (x := ((j2 - 1 : Nat) : Int)) (by rw [wrap64 (by omega) (by omega)]; omega) ?_
       refine nEq (x := ((j2 - 1 : Nat) : Int)) (by rw [wrap64 (by omega) (by omega)]; omega) ?_
       refine idxI (j2 - 1) (by omega) (by omega) ?_
       refine rdI (by omega) ?_
       refine idxI (j2) (by omega) (by omega) ?_
       refine rdI (by omega) ?_
       refine idxI (j2) (by omega) (by omega) ?_
       refine wrI (by omega) ?_
       refine idxI (j2 - 1) (by omega) (by omega) ?_
       refine wrI (by simp; omega) ?_
       refine nEq (x := ((j2 + 1 : Nat) : Int)) (by rw [wrap64 (by omega) (by omega)]; omega) ?_
       exact ⟨(j2 + 1, swp d5 j2 (j2 - 1)), ⟨by dsimp only; omega, by dsimp only; omega, by dsimp only; rw [Go.Sort.swp_size]; exact hs5, hE⟩, by dsimp only; omega, ⟨⟨rfl, rfl, rfl, rfl, rfl, rfl, trivial⟩, trivial, rfl, rfl⟩⟩
     ·rw [if_neg (by omega)] at hE
      obtain rfl := hE
      refine nEq (x := 5 - (t : Int)) (by rw [wrap64 (by omega) (by omega)]; omega) ?_
      exact ⟨(t, i', d5), ⟨by dsimp only; omega, by dsimp only; omega, by dsimp only; omega, hs5, hR⟩, by dsimp only; omega, ⟨⟨rfl, rfl, rfl, rfl, rfl, trivial⟩, trivial, rfl, rfl⟩⟩
    ·rw [if_neg (by omega)] at hR
     refine nEq (x := 5 - (t : Int)) (by rw [wrap64 (by omega) (by omega)]; omega) ?_
     exact ⟨(t, i', d3), ⟨by dsimp only; omega, by dsimp only; omega, by dsimp only; omega, hs3, hR⟩, by dsimp only; omega, ⟨⟨rfl, rfl, rfl, rfl, rfl, trivial⟩, trivial, rfl, rfl⟩⟩
   ·rw [if_neg (by simp only [hl2]; simp)] at hD
    refine nEq (x := ((k : Nat) : Int)) (by rw [wrap64 (by omega) (by omega)]; omega) ?_
    refine nEq (x := ((k : Nat) : Int)) (by rw [wrap64 (by omega) (by omega)]; omega) ?_
    refine idxI (k) (by omega) (by omega) ?_
    refine rdI (by omega) ?_
    refine idxI (k + 1) (by omega) (by omega) ?_
    refine rdI (by omega) ?_
    refine idxI (k + 1) (by omega) (by omega) ?_
    refine wrI (by omega) ?_
    refine idxI (k) (by omega) (by omega) ?_
    refine wrI (by simp; omega) ?_
    refine nEq (x := ((k : Nat) : Int)) (by rw [wrap64 (by omega) (by omega)]; omega) ?_
    exact ⟨(k, swp d3 (k + 1) k), ⟨by dsimp only; omega, by dsimp only; rw [Go.Sort.swp_size]; exact hs3, hD⟩, by dsimp only; omega, ⟨⟨rfl, rfl, rfl, rfl, rfl, rfl, trivial⟩, trivial, rfl, rfl⟩⟩
  ·obtain rfl : j = 0 := by omega
   have hD : d3 = D2 := hD
   obtain rfl := hD
   refine nEq (x := ((b - i' : Nat) : Int)) (by rw [wrap64 (by omega) (by omega)]; omega) ?_
   unfold fixUp at hR
   refine ifd (fun hu2 => ?_) (fun hu2 => ?_)
   ·rw [if_pos (by omega)] at hR
    refine nEq (x := ((i' + 1 : Nat) : Int)) (by rw [wrap64 (by omega) (by omega)]; omega) ?_
    generalize hE : shiftUp ltInt b (i' + 1) d3 = D4 at *
    refine lIn (fun p : Nat × Array Int => i' + 1 ≤ p.1 ∧ p.1 ≤ b + 1 ∧ p.2.size = n ∧ shiftUp ltInt b p.1 p.2 = D4) (fun (j, d) => ⟨[(0, .val (.slice (some ⟨r, 0, none⟩) n cap)), (1, .val (.int .i64 a)), (2, .val (.int .i64 b)), (7, .val (.int .i64 i')), (8, .val (.int .i64 (5 - ((t + 1 : Nat) : Int)))), (10, .val (.int .i64 j))], [], 0, μ, RowI h0 r ty rest d⟩) (fun p => b - p.1)
     (i' + 1, d3) ⟨by dsimp only; omega, by dsimp only; omega, hs3, hE⟩ (fun (_, _) => ⟨rfl, rfl⟩) ⟨⟨rfl, rfl, rfl, rfl, rfl, rfl, trivial⟩, trivial, rfl, rfl⟩ ?_
    clear hE
    rintro ⟨j2, d5⟩ ⟨hj2, hjb2, hs5, hE⟩
    dsimp only at hj2 hjb2 hs5 hE
    rw [shiftUp] at hE
    refine ifd (fun hj1 => ?_) (fun hj1 => ?_)
    ·rw [if_pos (by omega)] at hE
     refine idxI (j2) (by omega) (by omega) ?_
     refine rdI (by omega) ?_
     refine nEq (x := ((j2 - 1 : Nat) : Int)) (by rw [wrap64 (by omega) (by omega)]; omega) ?_
     refine idxI (j2 - 1) (by omega) (by omega) ?_
     refine rdI (by omega) ?_
     refine cGv (Less_spec _ _) ?_
     refine iIn (fun hl3 => ?_) (fun hl3 => ?_)
     ·rw [if_pos hl3] at hE
      obtain rfl := hE
      refine nEq (x := 5 - (t : Int)) (by rw [wrap64 (by omega) (by omega)]; omega) ?_
      exact ⟨(t, i', d5), ⟨by dsimp only; omega, by dsimp only; omega, by dsimp only; omega, hs5, hR⟩, by dsimp only; omega, ⟨⟨rfl, rfl, rfl, rfl, rfl, trivial⟩, trivial, rfl, rfl⟩⟩
     ·rw [if_neg (by simp only [hl3]; simp)] at hE
      refine nEq (x := ((j2 - 1 : Nat) : Int)) (by rw [wrap64 (by omega) (by omega)]; omega) ?_
      refine nEq (x := ((j2 - 1 : Nat) : Int)) (by rw [wrap64 (by omega) (by omega)]; omega) ?_
      refine idxI (j2 - 1) (by omega) (by omega) ?_
      refine rdI (by omega) ?_
      refine idxI (j2) (by omega) (by omega) ?_
      refine rdI (by omega) ?_
      refine idxI (j2) (by omega) (by omega) ?_
      refine wrI (by omega) ?_
      refine idxI (j2 - 1) (by omega) (by omega) ?_
      refine wrI (by simp; omega) ?_
      refine nEq (x := ((j2 + 1 : Nat) : Int)) (by rw [wrap64 (by omega) (by omega)]; omega) ?_
      exact ⟨(j2 + 1, swp d5 j2 (j2 - 1)), ⟨by dsimp only; omega, by dsimp only; omega, by dsimp only; rw [Go.Sort.swp_size]; exact hs5, hE⟩, by dsimp only; omega, ⟨⟨rfl, rfl, rfl, rfl, rfl, rfl, trivial⟩, trivial, rfl, rfl⟩⟩
    ·rw [if_neg (by omega)] at hE
     obtain rfl := hE
     refine nEq (x := 5 - (t : Int)) (by rw [wrap64 (by omega) (by omega)]; omega) ?_
     exact ⟨(t, i', d5), ⟨by dsimp only; omega, by dsimp only; omega, by dsimp only; omega, hs5, hR⟩, by dsimp only; omega, ⟨⟨rfl, rfl, rfl, rfl, rfl, trivial⟩, trivial, rfl, rfl⟩⟩
   ·rw [if_neg (by omega)] at hR
    refine nEq (x := 5 - (t : Int)) (by rw [wrap64 (by omega) (by omega)]; omega) ?_
    exact ⟨(t, i', d3), ⟨by dsimp only; omega, by dsimp only; omega, by dsimp only; omega, hs3, hR⟩, by dsimp only; omega, ⟨⟨rfl, rfl, rfl, rfl, rfl, trivial⟩, trivial, rfl, rfl⟩⟩
 ·rw [if_neg (by omega)] at hR
  refine nEq (x := ((b - i' : Nat) : Int)) (by rw [wrap64 (by omega) (by omega)]; omega) ?_
  unfold fixUp at hR
  refine ifd (fun hu2 => ?_) (fun hu2 => ?_)
  ·rw [if_pos (by omega)] at hR
   refine nEq (x := ((i' + 1 : Nat) : Int)) (by rw [wrap64 (by omega) (by omega)]; omega) ?_
   generalize hE : shiftUp ltInt b (i' + 1) d2 = D4 at *
   refine lIn (fun p : Nat × Array Int => i' + 1 ≤ p.1 ∧ p.1 ≤ b + 1 ∧ p.2.size = n ∧ shiftUp ltInt b p.1 p.2 = D4) (fun (j, d) => ⟨[(0, .val (.slice (some ⟨r, 0, none⟩) n cap)), (1, .val (.int .i64 a)), (2, .val (.int .i64 b)), (7, .val (.int .i64 i')), (8, .val (.int .i64 (5 - ((t + 1 : Nat) : Int)))), (10, .val (.int .i64 j))], [], 0, μ, RowI h0 r ty rest d⟩) (fun p => b - p.1)
    (i' + 1, d2) ⟨by dsimp only; omega, by dsimp only; omega, hs2, hE⟩ (fun (_, _) => ⟨rfl, rfl⟩) ⟨⟨rfl, rfl, rfl, rfl, rfl, rfl, trivial⟩, trivial, rfl, rfl⟩ ?_
   clear hE
   rintro ⟨j2, d5⟩ ⟨hj2, hjb2, hs5, hE⟩
   dsimp only at hj2 hjb2 hs5 hE
   rw [shiftUp] at hE
   refine ifd (fun hj1 => ?_) (fun hj1 => ?_)
   ·rw [if_pos (by omega)] at hE
    refine idxI (j2) (by omega) (by omega) ?_
    refine rdI (by omega) ?_
    refine nEq (x := ((j2 - 1 : Nat) : Int)) (by rw [wrap64 (by omega) (by omega)]; omega) ?_
    refine idxI (j2 - 1) (by omega) (by omega) ?_
    refine rdI (by omega) ?_
    refine cGv (Less_spec _ _) ?_
    refine iIn (fun hl3 => ?_) (fun hl3 => ?_)
    ·rw [if_pos hl3] at hE
     obtain rfl := hE
     refine nEq (x := 5 - (t : Int)) (by rw [wrap64 (by omega) (by omega)]; omega) ?_
     exact ⟨(t, i', d5), ⟨by dsimp only; omega, by dsimp only; omega, by dsimp only; omega, hs5, hR⟩, by dsimp only; omega, ⟨⟨rfl, rfl, rfl, rfl, rfl, trivial⟩, trivial, rfl, rfl⟩⟩
    ·rw [if_neg (by simp only [hl3]; simp)] at hE
     refine nEq (x := ((j2 - 1 : Nat) : Int)) (by rw [wrap64 (by omega) (by omega)]; omega) ?_
     refine nEq (x := ((j2 - 1 : Nat) : Int)) (by rw [wrap64 (by omega) (by omega)]; omega) ?_
     refine idxI (j2 - 1) (by omega) (by omega) ?_
     refine rdI (by omega) ?_
     refine idxI (j2) (by omega) (by omega) ?_
     refine rdI (by omega) ?_
     refine idxI (j2) (by omega) (by omega) ?_
     refine wrI (by omega) ?_
     refine idxI (j2 - 1) (by omega) (by omega) ?_
     refine wrI (by simp; omega) ?_
     refine nEq (x := ((j2 + 1 : Nat) : Int)) (by rw [wrap64 (by omega) (by omega)]; omega) ?_
     exact ⟨(j2 + 1, swp d5 j2 (j2 - 1)), ⟨by dsimp only; omega, by dsimp only; omega, by dsimp only; rw [Go.Sort.swp_size]; exact hs5, hE⟩, by dsimp only; omega, ⟨⟨rfl, rfl, rfl, rfl, rfl, rfl, trivial⟩, trivial, rfl, rfl⟩⟩
   ·rw [if_neg (by omega)] at hE
    obtain rfl := hE
    refine nEq (x := 5 - (t : Int)) (by rw [wrap64 (by omega) (by omega)]; omega) ?_
    exact ⟨(t, i', d5), ⟨by dsimp only; omega, by dsimp only; omega, by dsimp only; omega, hs5, hR⟩, by dsimp only; omega, ⟨⟨rfl, rfl, rfl, rfl, rfl, trivial⟩, trivial, rfl, rfl⟩⟩
  ·rw [if_neg (by omega)] at hR
   refine nEq (x := 5 - (t : Int)) (by rw [wrap64 (by omega) (by omega)]; omega) ?_
   exact ⟨(t, i', d2), ⟨by dsimp only; omega, by dsimp only; omega, by dsimp only; omega, hs2, hR⟩, by dsimp only; omega, ⟨⟨rfl, rfl, rfl, rfl, rfl, trivial⟩, trivial, rfl, rfl⟩⟩
end
end Go.Vx
namespace Go.Vx
open Go.Proofs Classical
open Go.Sort
section
variable {h0 : Mem} {r : Nat} {ty : TypeId} {rest : List Value}
set_option maxHeartbeats 16000000 in
theorem pdqsort_spec {n cap : Nat} (hr : h0 r = none) (hn : n ≤ 1000000000000) : ∀ (m : Nat) (a b limit : Nat) (d : Array Int) (μ : Mem), b - a < m → a ≤ b → b ≤ n → d.size = n → limit ≤ 64 → Below ltInt a b d →
  SpecH Try.prog 172 [.slice (some ⟨r, 0, none⟩) n cap, .int .i64 a, .int .i64 b, .int .i64 limit] μ (RowI h0 r ty rest d) fun v _μ' h' => v = .tuple #[] ∧ ∃ d', PermIn a b d d' ∧ SortedIn ltInt a b d' ∧ h' = RowI h0 r ty rest d' := by
 intro m
 induction m with
 | zero => intro a b limit d μ h; omega
 | succ m ih =>
 intro a0 b0 limit0 d0 μ hm hab0 hb0 hd0 hl0 hB0
 refine SpecH.mk [] Try.func172 (by kernel_rfl) ?_
 refine lIn (fun p : Nat × Nat × Nat × Bool × Bool × Array Int × Mem => p.1 ≤ p.2.1 ∧ p.2.1 ≤ n ∧ p.2.1 - p.1 ≤ b0 - a0 ∧ p.2.2.1 ≤ 64 ∧ p.2.2.2.2.2.1.size = n ∧ Below ltInt p.1 p.2.1 p.2.2.2.2.2.1 ∧ μ.Le p.2.2.2.2.2.2 ∧ ∀ R, PermIn p.1 p.2.1 p.2.2.2.2.2.1 R → SortedIn ltInt p.1 p.2.1 R → PermIn a0 b0 d0 R ∧ SortedIn ltInt a0 b0 R)
  (fun (a, b, limit, wb, wp, d, μ') => ⟨[(0, .val (.slice (some ⟨r, 0, none⟩) n cap)), (1, .val (.int .i64 a)), (2, .val (.int .i64 b)), (3, .val (.int .i64 limit)), (8, .val (.bool wb)), (9, .val (.bool wp))], [], 0, μ', RowI h0 r ty rest d⟩) (fun p => p.2.1 - p.1)
  (a0, b0, limit0, true, true, d0, μ) ⟨hab0, hb0, Nat.le_refl _, hl0, hd0, hB0, Mem.Le.refl _, fun R h1 h2 => ⟨h1, h2⟩⟩ (fun (_, _, _, _, _, _, _) => ⟨rfl, rfl⟩) ⟨⟨rfl, rfl, rfl, rfl, rfl, rfl, trivial⟩, trivial, rfl, rfl⟩ ?_
 rintro ⟨a, b, limit, wb, wp, d, μ1⟩ ⟨hab, hb, hlen, hlim, hs, hB, hle, hfin⟩
 dsimp only at hab hb hlen hlim hs hB hle hfin
 refine nEq (x := ((b - a : Nat) : Int)) (by rw [wrap64 (by omega) (by omega)]; omega) ?_
 refine ifd (fun h12 => ?_) (fun h12 => ?_)
 ·refine cOw (insertionSort_spec hs hab hb hn) fun v μ' h' hle' hap hR => ?_
  obtain ⟨rfl, e1, rfl⟩ := hR
  have q := insertionSort_holds (lt := ltInt) swo_ltInt d a b hab (by omega)
  exact rPl ⟨rfl, _, (hfin _ q.1 q.2).1, (hfin _ q.1 q.2).2, rfl⟩
 refine ifd (fun hl => ?_) (fun hl => ?_)
 ·refine cOw (heapSort_spec hs (by omega) hb hn) fun v μ' h' hle' hap hR => ?_
  obtain ⟨rfl, e1, rfl⟩ := hR
  have q := heapSort_holds (lt := ltInt) swo_ltInt d a b hab (by omega)
  exact rPl ⟨rfl, _, (hfin _ q.1 q.2).1, (hfin _ q.1 q.2).2, rfl⟩
 cases wb with
 | false =>
  refine iIn (fun _ => ?_) (fun h => nomatch h)
  refine cOw (breakPatterns_spec hr hs (by omega) hb hn) fun v μ2 h' hle' hap hR => ?_
  obtain ⟨rfl, d1, p1, rfl⟩ := hR
  replace hB := hB.perm (by omega) p1
  replace hfin := fun R h1 h2 => hfin R (permIn_trans _ _ _ _ _ p1 h1) h2
  have hs1 : d1.size = n := p1.1.trans hs
  replace hle := hle.trans hle'
  clear hs p1 hle'
  refine nEq (x := ((limit - 1 : Nat) : Int)) (by rw [wrap64 (by omega) (by omega)]; omega) ?_
  refine cOw (choosePivot_spec hr hs1 (by omega) hb hn) fun v μ3 h' hle' hap hR => ?_
  obtain ⟨p, k, hp1, hp2, hk, rfl, rfl⟩ := hR
  replace hle := hle.trans hle'
  clear hle' hap
  refine ifd (fun hk2 => ?_) (fun hk2 => ?_)
  ·refine cOw (reverseRange_spec hs1 (by omega) hab hb hn) fun v μ4 h' hle' hap hR => ?_
   obtain ⟨rfl, e1, rfl⟩ := hR
   obtain rfl := e1.symm
   clear hle' hap
   have p2 := reverseRange_holds d1 a b hab (by omega)
   generalize reverseRange d1 a b = d2 at *
   replace hB := hB.perm (by omega) p2
   replace hfin := fun R h1 h2 => hfin R (permIn_trans _ _ _ _ _ p2 h1) h2
   have hs2 : d2.size = n := p2.1.trans hs1
   clear p2
   refine nEq (x := ((b - 1 : Nat) : Int)) (by rw [wrap64 (by omega) (by omega)]; omega) ?_
   refine nEq (x := ((p - a : Nat) : Int)) (by rw [wrap64 (by omega) (by omega)]; omega) ?_
   refine nEq (x := (((b - 1) - (p - a) : Nat) : Int)) (by rw [wrap64 (by omega) (by omega)]; omega) ?_
   refine iIn (fun h => nomatch h) (fun _ => ?_)
   refine ifd (fun ha0 => ?_) (fun ha0 => ?_)
   ·refine nEq (x := ((a - 1 : Nat) : Int)) (by rw [wrap64 (by omega) (by omega)]; omega) ?_
    refine idxI (a - 1) (by omega) (by omega) ?_
    refine rdI (by omega) ?_
    refine idxI ((b - 1) - (p - a)) (by omega) (by omega) ?_
    refine rdI (by omega) ?_
    refine cGv (Less_spec _ _) ?_
    refine iIn (fun hnl => ?_) (fun hnl => ?_)
    ·refine cOw (partitionEqual_spec (pivot := (b - 1) - (p - a)) hs2 (by omega) (by omega) hb hn) fun v μ6 h' hle' hap hR => ?_
     obtain ⟨rfl, e1, rfl⟩ := hR
     obtain rfl := e1.symm
     obtain ⟨mid, d4, hx⟩ : ∃ mid d4, partitionEqual ltInt d2 a b ((b - 1) - (p - a)) = (mid, d4) := ⟨_, _, rfl⟩
     rw [hx]
     have q := round_eq swo_ltInt (partitionEqual_holds ltInt) (by omega) (by omega) (by omega) (by omega) hB (by simpa using hnl) hx
     have qa := q.1
     exact ⟨(mid, b, limit - 1, false, wp, d4, _), ⟨q.2.1, hb, by dsimp only; omega, by dsimp only; omega, q.2.2.1.trans hs2, q.2.2.2.1, hle, fun R h1 h2 => hfin R (q.2.2.2.2 R h1 h2).1 (q.2.2.2.2 R h1 h2).2⟩, by dsimp only; omega, ⟨⟨rfl, rfl, rfl, rfl, rfl, rfl, trivial⟩, trivial, rfl, rfl⟩⟩
    ·refine cOw (partition_spec (pivot := (b - 1) - (p - a)) hs2 (by omega) (by omega) hb hn) fun v μ6 h' hle' hap hR => ?_
     obtain ⟨⟨ap, rfl⟩, e1, rfl⟩ := hR
     obtain rfl := e1.symm
     obtain ⟨mid, ap', d4, hx⟩ : ∃ mid ap' d4, partition ltInt d2 a b ((b - 1) - (p - a)) = (mid, ap', d4) := ⟨_, _, _, rfl⟩
     rw [hx]
     have w_ := round_part swo_ltInt (partition_holds ltInt) (by omega) (by omega) (by omega) hB hx
     obtain ⟨q1, q2, q3, q4, q5, q6, q7⟩ := w_
     refine nEq (x := ((mid - a : Nat) : Int)) (by rw [wrap64 (by omega) (by omega)]; omega) ?_
     refine nEq (x := ((b - mid : Nat) : Int)) (by rw [wrap64 (by omega) (by omega)]; omega) ?_
     refine need_intro (by decide) ?_
     refine nEq (x := (((b - a) / 8 : Nat) : Int)) (by rw [Int.tdiv_eq_ediv_of_nonneg (by omega), wrap64 (by omega) (by omega)]; omega) ?_
     refine ifd (fun hlt => ?_) (fun hlt => ?_)
     ·refine cOw (ih a mid (limit - 1) d4 _ (by omega) (by omega) (by omega) (q3.trans hs2) (by omega) q4) fun v μ7 h' hle7 hap hR => ?_
      obtain ⟨rfl, L, g1, g2, rfl⟩ := hR
      have w_ := q6 L g1 g2
      obtain ⟨g3, g4⟩ := w_
      refine nEq (x := ((mid + 1 : Nat) : Int)) (by rw [wrap64 (by omega) (by omega)]; omega) ?_
      exact ⟨(mid + 1, b, limit - 1, _, ap, L, μ7), ⟨by dsimp only; omega, hb, by dsimp only; omega, by dsimp only; omega, g1.1.trans (q3.trans hs2), g3, hle.trans hle7, fun R h1 h2 => hfin R (g4 R h1 h2).1 (g4 R h1 h2).2⟩, by dsimp only; omega, ⟨⟨rfl, rfl, rfl, rfl, rfl, rfl, trivial⟩, trivial, rfl, rfl⟩⟩
     ·refine nEq (x := ((mid + 1 : Nat) : Int)) (by rw [wrap64 (by omega) (by omega)]; omega) ?_
      refine cOw (ih (mid + 1) b (limit - 1) d4 _ (by omega) (by omega) (by omega) (q3.trans hs2) (by omega) q5) fun v μ7 h' hle7 hap hR => ?_
      obtain ⟨rfl, L, g1, g2, rfl⟩ := hR
      have w_ := q7 L g1 g2
      obtain ⟨g3, g4⟩ := w_
      exact ⟨(a, mid, limit - 1, _, ap, L, μ7), ⟨by dsimp only; omega, by dsimp only; omega, by dsimp only; omega, by dsimp only; omega, g1.1.trans (q3.trans hs2), g3, hle.trans hle7, fun R h1 h2 => hfin R (g4 R h1 h2).1 (g4 R h1 h2).2⟩, by dsimp only; omega, ⟨⟨rfl, rfl, rfl, rfl, rfl, rfl, trivial⟩, trivial, rfl, rfl⟩⟩
   ·refine cOw (partition_spec (pivot := (b - 1) - (p - a)) hs2 (by omega) (by omega) hb hn) fun v μ6 h' hle' hap hR => ?_
    obtain ⟨⟨ap, rfl⟩, e1, rfl⟩ := hR
    obtain rfl := e1.symm
    obtain ⟨mid, ap', d4, hx⟩ : ∃ mid ap' d4, partition ltInt d2 a b ((b - 1) - (p - a)) = (mid, ap', d4) := ⟨_, _, _, rfl⟩
    rw [hx]
    have w_ := round_part swo_ltInt (partition_holds ltInt) (by omega) (by omega) (by omega) hB hx
    obtain ⟨q1, q2, q3, q4, q5, q6, q7⟩ := w_
    refine nEq (x := ((mid - a : Nat) : Int)) (by rw [wrap64 (by omega) (by omega)]; omega) ?_
    refine nEq (x := ((b - mid : Nat) : Int)) (by rw [wrap64 (by omega) (by omega)]; omega) ?_
    refine need_intro (by decide) ?_
    refine nEq (x := (((b - a) / 8 : Nat) : Int)) (by rw [Int.tdiv_eq_ediv_of_nonneg (by omega), wrap64 (by omega) (by omega)]; omega) ?_
    refine ifd (fun hlt => ?_) (fun hlt => ?_)
    ·refine cOw (ih a mid (limit - 1) d4 _ (by omega) (by omega) (by omega) (q3.trans hs2) (by omega) q4) fun v μ7 h' hle7 hap hR => ?_
     obtain ⟨rfl, L, g1, g2, rfl⟩ := hR
     have w_ := q6 L g1 g2
     obtain ⟨g3, g4⟩ := w_
     refine nEq (x := ((mid + 1 : Nat) : Int)) (by rw [wrap64 (by omega) (by omega)]; omega) ?_
     exact ⟨(mid + 1, b, limit - 1, _, ap, L, μ7), ⟨by dsimp only; omega, hb, by dsimp only; omega, by dsimp only; omega, g1.1.trans (q3.trans hs2), g3, hle.trans hle7, fun R h1 h2 => hfin R (g4 R h1 h2).1 (g4 R h1 h2).2⟩, by dsimp only; omega, ⟨⟨rfl, rfl, rfl, rfl, rfl, rfl, trivial⟩, trivial, rfl, rfl⟩⟩
    ·refine nEq (x := ((mid + 1 : Nat) : Int)) (by rw [wrap64 (by omega) (by omega)]; omega) ?_
     refine cOw (ih (mid + 1) b (limit - 1) d4 _ (by omega) (by omega) (by omega) (q3.trans hs2) (by omega) q5) fun v μ7 h' hle7 hap hR => ?_
     obtain ⟨rfl, L, g1, g2, rfl⟩ := hR
     have w_ := q7 L g1 g2
     obtain ⟨g3, g4⟩ := w_
     exact ⟨(a, mid, limit - 1, _, ap, L, μ7), ⟨by dsimp only; omega, by dsimp only; omega, by dsimp only; omega, by dsimp only; omega, g1.1.trans (q3.trans hs2), g3, hle.trans hle7, fun R h1 h2 => hfin R (g4 R h1 h2).1 (g4 R h1 h2).2⟩, by dsimp only; omega, ⟨⟨rfl, rfl, rfl, rfl, rfl, rfl, trivial⟩, trivial, rfl, rfl⟩⟩
  ·refine iIn (fun h => nomatch h) (fun _ => ?_)
   refine ifd (fun ha0 => ?_) (fun ha0 => ?_)
   ·refine nEq (x := ((a - 1 : Nat) : Int)) (by rw [wrap64 (by omega) (by omega)]; omega) ?_
    refine idxI (a - 1) (by omega) (by omega) ?_
    refine rdI (by omega) ?_
    refine idxI (p) (by omega) (by omega) ?_
    refine rdI (by omega) ?_
    refine cGv (Less_spec _ _) ?_
    refine iIn (fun hnl => ?_) (fun hnl => ?_)
    ·refine cOw (partitionEqual_spec (pivot := p) hs1 (by omega) (by omega) hb hn) fun v μ6 h' hle' hap hR => ?_
     obtain ⟨rfl, e1, rfl⟩ := hR
     obtain rfl := e1.symm
     obtain ⟨mid, d4, hx⟩ : ∃ mid d4, partitionEqual ltInt d1 a b (p) = (mid, d4) := ⟨_, _, rfl⟩
     rw [hx]
     have q := round_eq swo_ltInt (partitionEqual_holds ltInt) (by omega) (by omega) (by omega) (by omega) hB (by simpa using hnl) hx
     have qa := q.1
     exact ⟨(mid, b, limit - 1, false, wp, d4, _), ⟨q.2.1, hb, by dsimp only; omega, by dsimp only; omega, q.2.2.1.trans hs1, q.2.2.2.1, hle, fun R h1 h2 => hfin R (q.2.2.2.2 R h1 h2).1 (q.2.2.2.2 R h1 h2).2⟩, by dsimp only; omega, ⟨⟨rfl, rfl, rfl, rfl, rfl, rfl, trivial⟩, trivial, rfl, rfl⟩⟩
    ·refine cOw (partition_spec (pivot := p) hs1 (by omega) (by omega) hb hn) fun v μ6 h' hle' hap hR => ?_
     obtain ⟨⟨ap, rfl⟩, e1, rfl⟩ := hR
     obtain rfl := e1.symm
     obtain ⟨mid, ap', d4, hx⟩ : ∃ mid ap' d4, partition ltInt d1 a b (p) = (mid, ap', d4) := ⟨_, _, _, rfl⟩
     rw [hx]
     have w_ := round_part swo_ltInt (partition_holds ltInt) (by omega) (by omega) (by omega) hB hx
     obtain ⟨q1, q2, q3, q4, q5, q6, q7⟩ := w_
     refine nEq (x := ((mid - a : Nat) : Int)) (by rw [wrap64 (by omega) (by omega)]; omega) ?_
     refine nEq (x := ((b - mid : Nat) : Int)) (by rw [wrap64 (by omega) (by omega)]; omega) ?_
     refine need_intro (by decide) ?_
     refine nEq (x := (((b - a) / 8 : Nat) : Int)) (by rw [Int.tdiv_eq_ediv_of_nonneg (by omega), wrap64 (by omega) (by omega)]; omega) ?_
     refine ifd (fun hlt => ?_) (fun hlt => ?_)
     ·refine cOw (ih a mid (limit - 1) d4 _ (by omega) (by omega) (by omega) (q3.trans hs1) (by omega) q4) fun v μ7 h' hle7 hap hR => ?_
      obtain ⟨rfl, L, g1, g2, rfl⟩ := hR
      have w_ := q6 L g1 g2
      obtain ⟨g3, g4⟩ := w_
      refine nEq (x := ((mid + 1 : Nat) : Int)) (by rw [wrap64 (by omega) (by omega)]; omega) ?_
      exact ⟨(mid + 1, b, limit - 1, _, ap, L, μ7), ⟨by dsimp only; omega, hb, by dsimp only; omega, by dsimp only; omega, g1.1.trans (q3.trans hs1), g3, hle.trans hle7, fun R h1 h2 => hfin R (g4 R h1 h2).1 (g4 R h1 h2).2⟩, by dsimp only; omega, ⟨⟨rfl, rfl, rfl, rfl, rfl, rfl, trivial⟩, trivial, rfl, rfl⟩⟩
     ·refine nEq (x := ((mid + 1 : Nat) : Int)) (by rw [wrap64 (by omega) (by omega)]; omega) ?_
      refine cOw (ih (mid + 1) b (limit - 1) d4 _ (by omega) (by omega) (by omega) (q3.trans hs1) (by omega) q5) fun v μ7 h' hle7 hap hR => ?_
      obtain ⟨rfl, L, g1, g2, rfl⟩ := hR
      have w_ := q7 L g1 g2
      obtain ⟨g3, g4⟩ := w_
      exact ⟨(a, mid, limit - 1, _, ap, L, μ7), ⟨by dsimp only; omega, by dsimp only; omega, by dsimp only; omega, by dsimp only; omega, g1.1.trans (q3.trans hs1), g3, hle.trans hle7, fun R h1 h2 => hfin R (g4 R h1 h2).1 (g4 R h1 h2).2⟩, by dsimp only; omega, ⟨⟨rfl, rfl, rfl, rfl, rfl, rfl, trivial⟩, trivial, rfl, rfl⟩⟩
   ·refine cOw (partition_spec (pivot := p) hs1 (by omega) (by omega) hb hn) fun v μ6 h' hle' hap hR => ?_
    obtain ⟨⟨ap, rfl⟩, e1, rfl⟩ := hR
    obtain rfl := e1.symm
    obtain ⟨mid, ap', d4, hx⟩ : ∃ mid ap' d4, partition ltInt d1 a b (p) = (mid, ap', d4) := ⟨_, _, _, rfl⟩
    rw [hx]
    have w_ := round_part swo_ltInt (partition_holds ltInt) (by omega) (by omega) (by omega) hB hx
    obtain ⟨q1, q2, q3, q4, q5, q6, q7⟩ := w_
    refine nEq (x := ((mid - a : Nat) : Int)) (by rw [wrap64 (by omega) (by omega)]; omega) ?_
    refine nEq (x := ((b - mid : Nat) : Int)) (by rw [wrap64 (by omega) (by omega)]; omega) ?_
    refine need_intro (by decide) ?_
    refine nEq (x := (((b - a) / 8 : Nat) : Int)) (by rw [Int.tdiv_eq_ediv_of_nonneg (by omega), wrap64 (by omega) (by omega)]; omega) ?_
    refine ifd (fun hlt => ?_) (fun hlt => ?_)
    ·refine cOw (ih a mid (limit - 1) d4 _ (by omega) (by omega) (by omega) (q3.trans hs1) (by omega) q4) fun v μ7 h' hle7 hap hR => ?_
     obtain ⟨rfl, L, g1, g2, rfl⟩ := hR
     have w_ := q6 L g1 g2
     obtain ⟨g3, g4⟩ := w_
     refine nEq (x := ((mid + 1 : Nat) : Int)) (by rw [wrap64 (by omega) (by omega)]; omega) ?_
     exact ⟨(mid + 1, b, limit - 1, _, ap, L, μ7), ⟨by dsimp only; omega, hb, by dsimp only; omega, by dsimp only; omega, g1.1.trans (q3.trans hs1), g3, hle.trans hle7, fun R h1 h2 => hfin R (g4 R h1 h2).1 (g4 R h1 h2).2⟩, by dsimp only; omega, ⟨⟨rfl, rfl, rfl, rfl, rfl, rfl, trivial⟩, trivial, rfl, rfl⟩⟩
    ·refine nEq (x := ((mid + 1 : Nat) : Int)) (by rw [wrap64 (by omega) (by omega)]; omega) ?_
     refine cOw (ih (mid + 1) b (limit - 1) d4 _ (by omega) (by omega) (by omega) (q3.trans hs1) (by omega) q5) fun v μ7 h' hle7 hap hR => ?_
     obtain ⟨rfl, L, g1, g2, rfl⟩ := hR
     have w_ := q7 L g1 g2
     obtain ⟨g3, g4⟩ := w_
     exact ⟨(a, mid, limit - 1, _, ap, L, μ7), ⟨by dsimp only; omega, by dsimp only; omega, by dsimp only; omega, by dsimp only; omega, g1.1.trans (q3.trans hs1), g3, hle.trans hle7, fun R h1 h2 => hfin R (g4 R h1 h2).1 (g4 R h1 h2).2⟩, by dsimp only; omega, ⟨⟨rfl, rfl, rfl, rfl, rfl, rfl, trivial⟩, trivial, rfl, rfl⟩⟩
 | true =>
  refine iIn (fun h => nomatch h) (fun _ => ?_)
  have hs1 := hs
  refine cOw (choosePivot_spec hr hs1 (by omega) hb hn) fun v μ3 h' hle' hap hR => ?_
  obtain ⟨p, k, hp1, hp2, hk, rfl, rfl⟩ := hR
  replace hle := hle.trans hle'
  clear hle' hap
  refine ifd (fun hk2 => ?_) (fun hk2 => ?_)
  ·refine cOw (reverseRange_spec hs1 (by omega) hab hb hn) fun v μ4 h' hle' hap hR => ?_
   obtain ⟨rfl, e1, rfl⟩ := hR
   obtain rfl := e1.symm
   clear hle' hap
   have p2 := reverseRange_holds d a b hab (by omega)
   generalize reverseRange d a b = d2 at *
   replace hB := hB.perm (by omega) p2
   replace hfin := fun R h1 h2 => hfin R (permIn_trans _ _ _ _ _ p2 h1) h2
   have hs2 : d2.size = n := p2.1.trans hs1
   clear p2
   refine nEq (x := ((b - 1 : Nat) : Int)) (by rw [wrap64 (by omega) (by omega)]; omega) ?_
   refine nEq (x := ((p - a : Nat) : Int)) (by rw [wrap64 (by omega) (by omega)]; omega) ?_
   refine nEq (x := (((b - 1) - (p - a) : Nat) : Int)) (by rw [wrap64 (by omega) (by omega)]; omega) ?_
   refine iIn (fun _ => ?_) (fun h => nomatch h)
   refine iIn (fun hwp => ?_) (fun hwp => ?_)
   ·refine ifd (fun _ => ?_) (fun h => absurd rfl h)
    refine cOw (partialInsertionSort_spec hs2 (by omega) hb hn) fun v μ5 h' hle' hap hR => ?_
    obtain ⟨rfl, e1, rfl⟩ := hR
    obtain rfl := e1.symm
    clear hle' hap
    have q := partialInsertionSort_holds (lt := ltInt) swo_ltInt d2 a b (by omega) (by omega) hB
    refine iIn (fun hok => ?_) (fun hok => ?_)
    ·exact rPl ⟨rfl, _, (hfin _ q.1 (q.2 hok)).1, (hfin _ q.1 (q.2 hok)).2, rfl⟩
    ·have q1 := q.1
     clear q hok
     generalize (partialInsertionSort ltInt d2 a b).1 = d3 at *
     replace hB := hB.perm (by omega) q1
     replace hfin := fun R h1 h2 => hfin R (permIn_trans _ _ _ _ _ q1 h1) h2
     have hs3 : d3.size = n := q1.1.trans hs2
     clear q1
     refine ifd (fun ha0 => ?_) (fun ha0 => ?_)
     ·refine nEq (x := ((a - 1 : Nat) : Int)) (by rw [wrap64 (by omega) (by omega)]; omega) ?_
      refine idxI (a - 1) (by omega) (by omega) ?_
      refine rdI (by omega) ?_
      refine idxI ((b - 1) - (p - a)) (by omega) (by omega) ?_
      refine rdI (by omega) ?_
      refine cGv (Less_spec _ _) ?_
      refine iIn (fun hnl => ?_) (fun hnl => ?_)
      ·refine cOw (partitionEqual_spec (pivot := (b - 1) - (p - a)) hs3 (by omega) (by omega) hb hn) fun v μ6 h' hle' hap hR => ?_
       obtain ⟨rfl, e1, rfl⟩ := hR
       obtain rfl := e1.symm
       obtain ⟨mid, d4, hx⟩ : ∃ mid d4, partitionEqual ltInt d3 a b ((b - 1) - (p - a)) = (mid, d4) := ⟨_, _, rfl⟩
       rw [hx]
       have q := round_eq swo_ltInt (partitionEqual_holds ltInt) (by omega) (by omega) (by omega) (by omega) hB (by simpa using hnl) hx
       have qa := q.1
       exact ⟨(mid, b, limit, true, wp, d4, _), ⟨q.2.1, hb, by dsimp only; omega, by dsimp only; omega, q.2.2.1.trans hs3, q.2.2.2.1, hle, fun R h1 h2 => hfin R (q.2.2.2.2 R h1 h2).1 (q.2.2.2.2 R h1 h2).2⟩, by dsimp only; omega, ⟨⟨rfl, rfl, rfl, rfl, rfl, rfl, trivial⟩, trivial, rfl, rfl⟩⟩
      ·refine cOw (partition_spec (pivot := (b - 1) - (p - a)) hs3 (by omega) (by omega) hb hn) fun v μ6 h' hle' hap hR => ?_
       obtain ⟨⟨ap, rfl⟩, e1, rfl⟩ := hR
       obtain rfl := e1.symm
       obtain ⟨mid, ap', d4, hx⟩ : ∃ mid ap' d4, partition ltInt d3 a b ((b - 1) - (p - a)) = (mid, ap', d4) := ⟨_, _, _, rfl⟩
       rw [hx]
       have w_ := round_part swo_ltInt (partition_holds ltInt) (by omega) (by omega) (by omega) hB hx
       obtain ⟨q1, q2, q3, q4, q5, q6, q7⟩ := w_
       refine nEq (x := ((mid - a : Nat) : Int)) (by rw [wrap64 (by omega) (by omega)]; omega) ?_
       refine nEq (x := ((b - mid : Nat) : Int)) (by rw [wrap64 (by omega) (by omega)]; omega) ?_
       refine need_intro (by decide) ?_
       refine nEq (x := (((b - a) / 8 : Nat) : Int)) (by rw [Int.tdiv_eq_ediv_of_nonneg (by omega), wrap64 (by omega) (by omega)]; omega) ?_
       refine ifd (fun hlt => ?_) (fun hlt => ?_)
       ·refine cOw (ih a mid (limit) d4 _ (by omega) (by omega) (by omega) (q3.trans hs3) (by omega) q4) fun v μ7 h' hle7 hap hR => ?_
        obtain ⟨rfl, L, g1, g2, rfl⟩ := hR
        have w_ := q6 L g1 g2
        obtain ⟨g3, g4⟩ := w_
        refine nEq (x := ((mid + 1 : Nat) : Int)) (by rw [wrap64 (by omega) (by omega)]; omega) ?_
        exact ⟨(mid + 1, b, limit, _, ap, L, μ7), ⟨by dsimp only; omega, hb, by dsimp only; omega, by dsimp only; omega, g1.1.trans (q3.trans hs3), g3, hle.trans hle7, fun R h1 h2 => hfin R (g4 R h1 h2).1 (g4 R h1 h2).2⟩, by dsimp only; omega, ⟨⟨rfl, rfl, rfl, rfl, rfl, rfl, trivial⟩, trivial, rfl, rfl⟩⟩
       ·refine nEq (x := ((mid + 1 : Nat) : Int)) (by rw [wrap64 (by omega) (by omega)]; omega) ?_
        refine cOw (ih (mid + 1) b (limit) d4 _ (by omega) (by omega) (by omega) (q3.trans hs3) (by omega) q5) fun v μ7 h' hle7 hap hR => ?_
        obtain ⟨rfl, L, g1, g2, rfl⟩ := hR
        have w_ := q7 L g1 g2
        obtain ⟨g3, g4⟩ := w_
        exact ⟨(a, mid, limit, _, ap, L, μ7), ⟨by dsimp only; omega, by dsimp only; omega, by dsimp only; omega, by dsimp only; omega, g1.1.trans (q3.trans hs3), g3, hle.trans hle7, fun R h1 h2 => hfin R (g4 R h1 h2).1 (g4 R h1 h2).2⟩, by dsimp only; omega, ⟨⟨rfl, rfl, rfl, rfl, rfl, rfl, trivial⟩, trivial, rfl, rfl⟩⟩
     ·refine cOw (partition_spec (pivot := (b - 1) - (p - a)) hs3 (by omega) (by omega) hb hn) fun v μ6 h' hle' hap hR => ?_
      obtain ⟨⟨ap, rfl⟩, e1, rfl⟩ := hR
      obtain rfl := e1.symm
      obtain ⟨mid, ap', d4, hx⟩ : ∃ mid ap' d4, partition ltInt d3 a b ((b - 1) - (p - a)) = (mid, ap', d4) := ⟨_, _, _, rfl⟩
      rw [hx]
      have w_ := round_part swo_ltInt (partition_holds ltInt) (by omega) (by omega) (by omega) hB hx
      obtain ⟨q1, q2, q3, q4, q5, q6, q7⟩ := w_
      refine nEq (x := ((mid - a : Nat) : Int)) (by rw [wrap64 (by omega) (by omega)]; omega) ?_
      refine nEq (x := ((b - mid : Nat) : Int)) (by rw [wrap64 (by omega) (by omega)]; omega) ?_
      refine need_intro (by decide) ?_
      refine nEq (x := (((b - a) / 8 : Nat) : Int)) (by rw [Int.tdiv_eq_ediv_of_nonneg (by omega), wrap64 (by omega) (by omega)]; omega) ?_
      refine ifd (fun hlt => ?_) (fun hlt => ?_)
      ·refine cOw (ih a mid (limit) d4 _ (by omega) (by omega) (by omega) (q3.trans hs3) (by omega) q4) fun v μ7 h' hle7 hap hR => ?_
       obtain ⟨rfl, L, g1, g2, rfl⟩ := hR
       have w_ := q6 L g1 g2
       obtain ⟨g3, g4⟩ := w_
       refine nEq (x := ((mid + 1 : Nat) : Int)) (by rw [wrap64 (by omega) (by omega)]; omega) ?_
       exact ⟨(mid + 1, b, limit, _, ap, L, μ7), ⟨by dsimp only; omega, hb, by dsimp only; omega, by dsimp only; omega, g1.1.trans (q3.trans hs3), g3, hle.trans hle7, fun R h1 h2 => hfin R (g4 R h1 h2).1 (g4 R h1 h2).2⟩, by dsimp only; omega, ⟨⟨rfl, rfl, rfl, rfl, rfl, rfl, trivial⟩, trivial, rfl, rfl⟩⟩
      ·refine nEq (x := ((mid + 1 : Nat) : Int)) (by rw [wrap64 (by omega) (by omega)]; omega) ?_
       refine cOw (ih (mid + 1) b (limit) d4 _ (by omega) (by omega) (by omega) (q3.trans hs3) (by omega) q5) fun v μ7 h' hle7 hap hR => ?_
       obtain ⟨rfl, L, g1, g2, rfl⟩ := hR
       have w_ := q7 L g1 g2
       obtain ⟨g3, g4⟩ := w_
       exact ⟨(a, mid, limit, _, ap, L, μ7), ⟨by dsimp only; omega, by dsimp only; omega, by dsimp only; omega, by dsimp only; omega, g1.1.trans (q3.trans hs3), g3, hle.trans hle7, fun R h1 h2 => hfin R (g4 R h1 h2).1 (g4 R h1 h2).2⟩, by dsimp only; omega, ⟨⟨rfl, rfl, rfl, rfl, rfl, rfl, trivial⟩, trivial, rfl, rfl⟩⟩
   ·refine ifd (fun ha0 => ?_) (fun ha0 => ?_)
    ·refine nEq (x := ((a - 1 : Nat) : Int)) (by rw [wrap64 (by omega) (by omega)]; omega) ?_
     refine idxI (a - 1) (by omega) (by omega) ?_
     refine rdI (by omega) ?_
     refine idxI ((b - 1) - (p - a)) (by omega) (by omega) ?_
     refine rdI (by omega) ?_
     refine cGv (Less_spec _ _) ?_
     refine iIn (fun hnl => ?_) (fun hnl => ?_)
     ·refine cOw (partitionEqual_spec (pivot := (b - 1) - (p - a)) hs2 (by omega) (by omega) hb hn) fun v μ6 h' hle' hap hR => ?_
      obtain ⟨rfl, e1, rfl⟩ := hR
      obtain rfl := e1.symm
      obtain ⟨mid, d4, hx⟩ : ∃ mid d4, partitionEqual ltInt d2 a b ((b - 1) - (p - a)) = (mid, d4) := ⟨_, _, rfl⟩
      rw [hx]
      have q := round_eq swo_ltInt (partitionEqual_holds ltInt) (by omega) (by omega) (by omega) (by omega) hB (by simpa using hnl) hx
      have qa := q.1
      exact ⟨(mid, b, limit, true, wp, d4, _), ⟨q.2.1, hb, by dsimp only; omega, by dsimp only; omega, q.2.2.1.trans hs2, q.2.2.2.1, hle, fun R h1 h2 => hfin R (q.2.2.2.2 R h1 h2).1 (q.2.2.2.2 R h1 h2).2⟩, by dsimp only; omega, ⟨⟨rfl, rfl, rfl, rfl, rfl, rfl, trivial⟩, trivial, rfl, rfl⟩⟩
     ·refine cOw (partition_spec (pivot := (b - 1) - (p - a)) hs2 (by omega) (by omega) hb hn) fun v μ6 h' hle' hap hR => ?_
      obtain ⟨⟨ap, rfl⟩, e1, rfl⟩ := hR
      obtain rfl := e1.symm
      obtain ⟨mid, ap', d4, hx⟩ : ∃ mid ap' d4, partition ltInt d2 a b ((b - 1) - (p - a)) = (mid, ap', d4) := ⟨_, _, _, rfl⟩
      rw [hx]
      have w_ := round_part swo_ltInt (partition_holds ltInt) (by omega) (by omega) (by omega) hB hx
      obtain ⟨q1, q2, q3, q4, q5, q6, q7⟩ := w_
      refine nEq (x := ((mid - a : Nat) : Int)) (by rw [wrap64 (by omega) (by omega)]; omega) ?_
      refine nEq (x := ((b - mid : Nat) : Int)) (by rw [wrap64 (by omega) (by omega)]; omega) ?_
      refine need_intro (by decide) ?_
      refine nEq (x := (((b - a) / 8 : Nat) : Int)) (by rw [Int.tdiv_eq_ediv_of_nonneg (by omega), wrap64 (by omega) (by omega)]; omega) ?_
      refine ifd (fun hlt => ?_) (fun hlt => ?_)
      ·refine cOw (ih a mid (limit) d4 _ (by omega) (by omega) (by omega) (q3.trans hs2) (by omega) q4) fun v μ7 h' hle7 hap hR => ?_
       obtain ⟨rfl, L, g1, g2, rfl⟩ := hR
       have w_ := q6 L g1 g2
       obtain ⟨g3, g4⟩ := w_
       refine nEq (x := ((mid + 1 : Nat) : Int)) (by rw [wrap64 (by omega) (by omega)]; omega) ?_
       exact ⟨(mid + 1, b, limit, _, ap, L, μ7), ⟨by dsimp only; omega, hb, by dsimp only; omega, by dsimp only; omega, g1.1.trans (q3.trans hs2), g3, hle.trans hle7, fun R h1 h2 => hfin R (g4 R h1 h2).1 (g4 R h1 h2).2⟩, by dsimp only; omega, ⟨⟨rfl, rfl, rfl, rfl, rfl, rfl, trivial⟩, trivial, rfl, rfl⟩⟩
      ·refine nEq (x := ((mid + 1 : Nat) : Int)) (by rw [wrap64 (by omega) (by omega)]; omega) ?_
       refine cOw (ih (mid + 1) b (limit) d4 _ (by omega) (by omega) (by omega) (q3.trans hs2) (by omega) q5) fun v μ7 h' hle7 hap hR => ?_
       obtain ⟨rfl, L, g1, g2, rfl⟩ := hR
       have w_ := q7 L g1 g2
       obtain ⟨g3, g4⟩ := w_
       exact ⟨(a, mid, limit, _, ap, L, μ7), ⟨by dsimp only; omega, by dsimp only; omega, by dsimp only; omega, by dsimp only; omega, g1.1.trans (q3.trans hs2), g3, hle.trans hle7, fun R h1 h2 => hfin R (g4 R h1 h2).1 (g4 R h1 h2).2⟩, by dsimp only; omega, ⟨⟨rfl, rfl, rfl, rfl, rfl, rfl, trivial⟩, trivial, rfl, rfl⟩⟩
    ·refine cOw (partition_spec (pivot := (b - 1) - (p - a)) hs2 (by omega) (by omega) hb hn) fun v μ6 h' hle' hap hR => ?_
     obtain ⟨⟨ap, rfl⟩, e1, rfl⟩ := hR
     obtain rfl := e1.symm
     obtain ⟨mid, ap', d4, hx⟩ : ∃ mid ap' d4, partition ltInt d2 a b ((b - 1) - (p - a)) = (mid, ap', d4) := ⟨_, _, _, rfl⟩
     rw [hx]
     have w_ := round_part swo_ltInt (partition_holds ltInt) (by omega) (by omega) (by omega) hB hx
     obtain ⟨q1, q2, q3, q4, q5, q6, q7⟩ := w_
     refine nEq (x := ((mid - a : Nat) : Int)) (by rw [wrap64 (by omega) (by omega)]; omega) ?_
     refine nEq (x := ((b - mid : Nat) : Int)) (by rw [wrap64 (by omega) (by omega)]; omega) ?_
     refine need_intro (by decide) ?_
     refine nEq (x := (((b - a) / 8 : Nat) : Int)) (by rw [Int.tdiv_eq_ediv_of_nonneg (by omega), wrap64 (by omega) (by omega)]; omega) ?_
     refine ifd (fun hlt => ?_) (fun hlt => ?_)
     ·refine cOw (ih a mid (limit) d4 _ (by omega) (by omega) (by omega) (q3.trans hs2) (by omega) q4) fun v μ7 h' hle7 hap hR => ?_
      obtain ⟨rfl, L, g1, g2, rfl⟩ := hR
      have w_ := q6 L g1 g2
      obtain ⟨g3, g4⟩ := w_
      refine nEq (x := ((mid + 1 : Nat) : Int)) (by rw [wrap64 (by omega) (by omega)]; omega) ?_
      exact ⟨(mid + 1, b, limit, _, ap, L, μ7), ⟨by dsimp only; omega, hb, by dsimp only; omega, by dsimp only; omega, g1.1.trans (q3.trans hs2), g3, hle.trans hle7, fun R h1 h2 => hfin R (g4 R h1 h2).1 (g4 R h1 h2).2⟩, by dsimp only; omega, ⟨⟨rfl, rfl, rfl, rfl, rfl, rfl, trivial⟩, trivial, rfl, rfl⟩⟩
     ·refine nEq (x := ((mid + 1 : Nat) : Int)) (by rw [wrap64 (by omega) (by omega)]; omega) ?_
      refine cOw (ih (mid + 1) b (limit) d4 _ (by omega) (by omega) (by omega) (q3.trans hs2) (by omega) q5) fun v μ7 h' hle7 hap hR => ?_
      obtain ⟨rfl, L, g1, g2, rfl⟩ := hR
      have w_ := q7 L g1 g2
      obtain ⟨g3, g4⟩ := w_
      exact ⟨(a, mid, limit, _, ap, L, μ7), ⟨by dsimp only; omega, by dsimp only; omega, by dsimp only; omega, by dsimp only; omega, g1.1.trans (q3.trans hs2), g3, hle.trans hle7, fun R h1 h2 => hfin R (g4 R h1 h2).1 (g4 R h1 h2).2⟩, by dsimp only; omega, ⟨⟨rfl, rfl, rfl, rfl, rfl, rfl, trivial⟩, trivial, rfl, rfl⟩⟩
  ·refine iIn (fun _ => ?_) (fun h => nomatch h)
   refine iIn (fun hwp => ?_) (fun hwp => ?_)
   ·refine ifd (fun hk1 => ?_) (fun hk1 => ?_)
    ·refine cOw (partialInsertionSort_spec hs1 (by omega) hb hn) fun v μ5 h' hle' hap hR => ?_
     obtain ⟨rfl, e1, rfl⟩ := hR
     obtain rfl := e1.symm
     clear hle' hap
     have q := partialInsertionSort_holds (lt := ltInt) swo_ltInt d a b (by omega) (by omega) hB
     refine iIn (fun hok => ?_) (fun hok => ?_)
     ·exact rPl ⟨rfl, _, (hfin _ q.1 (q.2 hok)).1, (hfin _ q.1 (q.2 hok)).2, rfl⟩
     ·have q1 := q.1
      clear q hok
      generalize (partialInsertionSort ltInt d a b).1 = d3 at *
      replace hB := hB.perm (by omega) q1
      replace hfin := fun R h1 h2 => hfin R (permIn_trans _ _ _ _ _ q1 h1) h2
      have hs3 : d3.size = n := q1.1.trans hs1
      clear q1
      refine ifd (fun ha0 => ?_) (fun ha0 => ?_)
      ·refine nEq (x := ((a - 1 : Nat) : Int)) (by rw [wrap64 (by omega) (by omega)]; omega) ?_
       refine idxI (a - 1) (by omega) (by omega) ?_
       refine rdI (by omega) ?_
       refine idxI (p) (by omega) (by omega) ?_
       refine rdI (by omega) ?_
       refine cGv (Less_spec _ _) ?_
       refine iIn (fun hnl => ?_) (fun hnl => ?_)
       ·refine cOw (partitionEqual_spec (pivot := p) hs3 (by omega) (by omega) hb hn) fun v μ6 h' hle' hap hR => ?_
        obtain ⟨rfl, e1, rfl⟩ := hR
        obtain rfl := e1.symm
        obtain ⟨mid, d4, hx⟩ : ∃ mid d4, partitionEqual ltInt d3 a b (p) = (mid, d4) := ⟨_, _, rfl⟩
        rw [hx]
        have q := round_eq swo_ltInt (partitionEqual_holds ltInt) (by omega) (by omega) (by omega) (by omega) hB (by simpa using hnl) hx
        have qa := q.1
        exact ⟨(mid, b, limit, true, wp, d4, _), ⟨q.2.1, hb, by dsimp only; omega, by dsimp only; omega, q.2.2.1.trans hs3, q.2.2.2.1, hle, fun R h1 h2 => hfin R (q.2.2.2.2 R h1 h2).1 (q.2.2.2.2 R h1 h2).2⟩, by dsimp only; omega, ⟨⟨rfl, rfl, rfl, rfl, rfl, rfl, trivial⟩, trivial, rfl, rfl⟩⟩
       ·refine cOw (partition_spec (pivot := p) hs3 (by omega) (by omega) hb hn) fun v μ6 h' hle' hap hR => ?_
        obtain ⟨⟨ap, rfl⟩, e1, rfl⟩ := hR
        obtain rfl := e1.symm
        obtain ⟨mid, ap', d4, hx⟩ : ∃ mid ap' d4, partition ltInt d3 a b (p) = (mid, ap', d4) := ⟨_, _, _, rfl⟩
        rw [hx]
        have w_ := round_part swo_ltInt (partition_holds ltInt) (by omega) (by omega) (by omega) hB hx
        obtain ⟨q1, q2, q3, q4, q5, q6, q7⟩ := w_
        refine nEq (x := ((mid - a : Nat) : Int)) (by rw [wrap64 (by omega) (by omega)]; omega) ?_
        refine nEq (x := ((b - mid : Nat) : Int)) (by rw [wrap64 (by omega) (by omega)]; omega) ?_
        refine need_intro (by decide) ?_
        refine nEq (x := (((b - a) / 8 : Nat) : Int)) (by rw [Int.tdiv_eq_ediv_of_nonneg (by omega), wrap64 (by omega) (by omega)]; omega) ?_
        refine ifd (fun hlt => ?_) (fun hlt => ?_)
        ·refine cOw (ih a mid (limit) d4 _ (by omega) (by omega) (by omega) (q3.trans hs3) (by omega) q4) fun v μ7 h' hle7 hap hR => ?_
         obtain ⟨rfl, L, g1, g2, rfl⟩ := hR
         have w_ := q6 L g1 g2
         obtain ⟨g3, g4⟩ := w_
         refine nEq (x := ((mid + 1 : Nat) : Int)) (by rw [wrap64 (by omega) (by omega)]; omega) ?_
         exact ⟨(mid + 1, b, limit, _, ap, L, μ7), ⟨by dsimp only; omega, hb, by dsimp only; omega, by dsimp only; omega, g1.1.trans (q3.trans hs3), g3, hle.trans hle7, fun R h1 h2 => hfin R (g4 R h1 h2).1 (g4 R h1 h2).2⟩, by dsimp only; omega, ⟨⟨rfl, rfl, rfl, rfl, rfl, rfl, trivial⟩, trivial, rfl, rfl⟩⟩
        ·refine nEq (x := ((mid + 1 : Nat) : Int)) (by rw [wrap64 (by omega) (by omega)]; omega) ?_
         refine cOw (ih (mid + 1) b (limit) d4 _ (by omega) (by omega) (by omega) (q3.trans hs3) (by omega) q5) fun v μ7 h' hle7 hap hR => ?_
         obtain ⟨rfl, L, g1, g2, rfl⟩ := hR
         have w_ := q7 L g1 g2
         obtain ⟨g3, g4⟩ := w_
         exact ⟨(a, mid, limit, _, ap, L, μ7), ⟨by dsimp only; omega, by dsimp only; omega, by dsimp only; omega, by dsimp only; omega, g1.1.trans (q3.trans hs3), g3, hle.trans hle7, fun R h1 h2 => hfin R (g4 R h1 h2).1 (g4 R h1 h2).2⟩, by dsimp only; omega, ⟨⟨rfl, rfl, rfl, rfl, rfl, rfl, trivial⟩, trivial, rfl, rfl⟩⟩
      ·refine cOw (partition_spec (pivot := p) hs3 (by omega) (by omega) hb hn) fun v μ6 h' hle' hap hR => ?_
       obtain ⟨⟨ap, rfl⟩, e1, rfl⟩ := hR
       obtain rfl := e1.symm
       obtain ⟨mid, ap', d4, hx⟩ : ∃ mid ap' d4, partition ltInt d3 a b (p) = (mid, ap', d4) := ⟨_, _, _, rfl⟩
       rw [hx]
       have w_ := round_part swo_ltInt (partition_holds ltInt) (by omega) (by omega) (by omega) hB hx
       obtain ⟨q1, q2, q3, q4, q5, q6, q7⟩ := w_
       refine nEq (x := ((mid - a : Nat) : Int)) (by rw [wrap64 (by omega) (by omega)]; omega) ?_
       refine nEq (x := ((b - mid : Nat) : Int)) (by rw [wrap64 (by omega) (by omega)]; omega) ?_
       refine need_intro (by decide) ?_
       refine nEq (x := (((b - a) / 8 : Nat) : Int)) (by rw [Int.tdiv_eq_ediv_of_nonneg (by omega), wrap64 (by omega) (by omega)]; omega) ?_
       refine ifd (fun hlt => ?_) (fun hlt => ?_)
       ·refine cOw (ih a mid (limit) d4 _ (by omega) (by omega) (by omega) (q3.trans hs3) (by omega) q4) fun v μ7 h' hle7 hap hR => ?_
        obtain ⟨rfl, L, g1, g2, rfl⟩ := hR
        have w_ := q6 L g1 g2
        obtain ⟨g3, g4⟩ := w_
        refine nEq (x := ((mid + 1 : Nat) : Int)) (by rw [wrap64 (by omega) (by omega)]; omega) ?_
        exact ⟨(mid + 1, b, limit, _, ap, L, μ7), ⟨by dsimp only; omega, hb, by dsimp only; omega, by dsimp only; omega, g1.1.trans (q3.trans hs3), g3, hle.trans hle7, fun R h1 h2 => hfin R (g4 R h1 h2).1 (g4 R h1 h2).2⟩, by dsimp only; omega, ⟨⟨rfl, rfl, rfl, rfl, rfl, rfl, trivial⟩, trivial, rfl, rfl⟩⟩
       ·refine nEq (x := ((mid + 1 : Nat) : Int)) (by rw [wrap64 (by omega) (by omega)]; omega) ?_
        refine cOw (ih (mid + 1) b (limit) d4 _ (by omega) (by omega) (by omega) (q3.trans hs3) (by omega) q5) fun v μ7 h' hle7 hap hR => ?_
        obtain ⟨rfl, L, g1, g2, rfl⟩ := hR
        have w_ := q7 L g1 g2
        obtain ⟨g3, g4⟩ := w_
        exact ⟨(a, mid, limit, _, ap, L, μ7), ⟨by dsimp only; omega, by dsimp only; omega, by dsimp only; omega, by dsimp only; omega, g1.1.trans (q3.trans hs3), g3, hle.trans hle7, fun R h1 h2 => hfin R (g4 R h1 h2).1 (g4 R h1 h2).2⟩, by dsimp only; omega, ⟨⟨rfl, rfl, rfl, rfl, rfl, rfl, trivial⟩, trivial, rfl, rfl⟩⟩
    ·refine ifd (fun ha0 => ?_) (fun ha0 => ?_)
     ·refine nEq (x := ((a - 1 : Nat) : Int)) (by rw [wrap64 (by omega) (by omega)]; omega) ?_
      refine idxI (a - 1) (by omega) (by omega) ?_
      refine rdI (by omega) ?_
      refine idxI (p) (by omega) (by omega) ?_
      refine rdI (by omega) ?_
      refine cGv (Less_spec _ _) ?_
      refine iIn (fun hnl => ?_) (fun hnl => ?_)
      ·refine cOw (partitionEqual_spec (pivot := p) hs1 (by omega) (by omega) hb hn) fun v μ6 h' hle' hap hR => ?_
       obtain ⟨rfl, e1, rfl⟩ := hR
       obtain rfl := e1.symm
       obtain ⟨mid, d4, hx⟩ : ∃ mid d4, partitionEqual ltInt d a b (p) = (mid, d4) := ⟨_, _, rfl⟩
       rw [hx]
       have q := round_eq swo_ltInt (partitionEqual_holds ltInt) (by omega) (by omega) (by omega) (by omega) hB (by simpa using hnl) hx
       have qa := q.1
       exact ⟨(mid, b, limit, true, wp, d4, _), ⟨q.2.1, hb, by dsimp only; omega, by dsimp only; omega, q.2.2.1.trans hs1, q.2.2.2.1, hle, fun R h1 h2 => hfin R (q.2.2.2.2 R h1 h2).1 (q.2.2.2.2 R h1 h2).2⟩, by dsimp only; omega, ⟨⟨rfl, rfl, rfl, rfl, rfl, rfl, trivial⟩, trivial, rfl, rfl⟩⟩
      ·refine cOw (partition_spec (pivot := p) hs1 (by omega) (by omega) hb hn) fun v μ6 h' hle' hap hR => ?_
       obtain ⟨⟨ap, rfl⟩, e1, rfl⟩ := hR
       obtain rfl := e1.symm
       obtain ⟨mid, ap', d4, hx⟩ : ∃ mid ap' d4, partition ltInt d a b (p) = (mid, ap', d4) := ⟨_, _, _, rfl⟩
       rw [hx]
       have w_ := round_part swo_ltInt (partition_holds ltInt) (by omega) (by omega) (by omega) hB hx
       obtain ⟨q1, q2, q3, q4, q5, q6, q7⟩ := w_
       refine nEq (x := ((mid - a : Nat) : Int)) (by rw [wrap64 (by omega) (by omega)]; omega) ?_
       refine nEq (x := ((b - mid : Nat) : Int)) (by rw [wrap64 (by omega) (by omega)]; omega) ?_
       refine need_intro (by decide) ?_
       refine nEq (x := (((b - a) / 8 : Nat) : Int)) (by rw [Int.tdiv_eq_ediv_of_nonneg (by omega), wrap64 (by omega) (by omega)]; omega) ?_
       refine ifd (fun hlt => ?_) (fun hlt => ?_)
       ·refine cOw (ih a mid (limit) d4 _ (by omega) (by omega) (by omega) (q3.trans hs1) (by omega) q4) fun v μ7 h' hle7 hap hR => ?_
        obtain ⟨rfl, L, g1, g2, rfl⟩ := hR
        have w_ := q6 L g1 g2
        obtain ⟨g3, g4⟩ := w_
        refine nEq (x := ((mid + 1 : Nat) : Int)) (by rw [wrap64 (by omega) (by omega)]; omega) ?_
        exact ⟨(mid + 1, b, limit, _, ap, L, μ7), ⟨by dsimp only; omega, hb, by dsimp only; omega, by dsimp only; omega, g1.1.trans (q3.trans hs1), g3, hle.trans hle7, fun R h1 h2 => hfin R (g4 R h1 h2).1 (g4 R h1 h2).2⟩, by dsimp only; omega, ⟨⟨rfl, rfl, rfl, rfl, rfl, rfl, trivial⟩, trivial, rfl, rfl⟩⟩
       ·refine nEq (x := ((mid + 1 : Nat) : Int)) (by rw [wrap64 (by omega) (by omega)]; omega) ?_
        refine cOw (ih (mid + 1) b (limit) d4 _ (by omega) (by omega) (by omega) (q3.trans hs1) (by omega) q5) fun v μ7 h' hle7 hap hR => ?_
        obtain ⟨rfl, L, g1, g2, rfl⟩ := hR
        have w_ := q7 L g1 g2
        obtain ⟨g3, g4⟩ := w_
        exact ⟨(a, mid, limit, _, ap, L, μ7), ⟨by dsimp only; omega, by dsimp only; omega, by dsimp only; omega, by dsimp only; omega, g1.1.trans (q3.trans hs1), g3, hle.trans hle7, fun R h1 h2 => hfin R (g4 R h1 h2).1 (g4 R h1 h2).2⟩, by dsimp only; omega, ⟨⟨rfl, rfl, rfl, rfl, rfl, rfl, trivial⟩, trivial, rfl, rfl⟩⟩
     ·refine cOw (partition_spec (pivot := p) hs1 (by omega) (by omega) hb hn) fun v μ6 h' hle' hap hR => ?_
      obtain ⟨⟨ap, rfl⟩, e1, rfl⟩ := hR
      obtain rfl := e1.symm
      obtain ⟨mid, ap', d4, hx⟩ : ∃ mid ap' d4, partition ltInt d a b (p) = (mid, ap', d4) := ⟨_, _, _, rfl⟩
      rw [hx]
      have w_ := round_part swo_ltInt (partition_holds ltInt) (by omega) (by omega) (by omega) hB hx
      obtain ⟨q1, q2, q3, q4, q5, q6, q7⟩ := w_
      refine nEq (x := ((mid - a : Nat) : Int)) (by rw [wrap64 (by omega) (by omega)]; omega) ?_
      refine nEq (x := ((b - mid : Nat) : Int)) (by rw [wrap64 (by omega) (by omega)]; omega) ?_
      refine need_intro (by decide) ?_
      refine nEq (x := (((b - a) / 8 : Nat) : Int)) (by rw [Int.tdiv_eq_ediv_of_nonneg (by omega), wrap64 (by omega) (by omega)]; omega) ?_
      refine ifd (fun hlt => ?_) (fun hlt => ?_)
      ·refine cOw (ih a mid (limit) d4 _ (by omega) (by omega) (by omega) (q3.trans hs1) (by omega) q4) fun v μ7 h' hle7 hap hR => ?_
       obtain ⟨rfl, L, g1, g2, rfl⟩ := hR
       have w_ := q6 L g1 g2
       obtain ⟨g3, g4⟩ := w_
       refine nEq (x := ((mid + 1 : Nat) : Int)) (by rw [wrap64 (by omega) (by omega)]; omega) ?_
       exact ⟨(mid + 1, b, limit, _, ap, L, μ7), ⟨by dsimp only; omega, hb, by dsimp only; omega, by dsimp only; omega, g1.1.trans (q3.trans hs1), g3, hle.trans hle7, fun R h1 h2 => hfin R (g4 R h1 h2).1 (g4 R h1 h2).2⟩, by dsimp only; omega, ⟨⟨rfl, rfl, rfl, rfl, rfl, rfl, trivial⟩, trivial, rfl, rfl⟩⟩
      ·refine nEq (x := ((mid + 1 : Nat) : Int)) (by rw [wrap64 (by omega) (by omega)]; omega) ?_
       refine cOw (ih (mid + 1) b (limit) d4 _ (by omega) (by omega) (by omega) (q3.trans hs1) (by omega) q5) fun v μ7 h' hle7 hap hR => ?_
       obtain ⟨rfl, L, g1, g2, rfl⟩ := hR
       have w_ := q7 L g1 g2
       obtain ⟨g3, g4⟩ := w_
       exact ⟨(a, mid, limit, _, ap, L, μ7), ⟨by dsimp only; omega, by dsimp only; omega, by dsimp only; omega, by dsimp only; omega, g1.1.trans (q3.trans hs1), g3, hle.trans hle7, fun R h1 h2 => hfin R (g4 R h1 h2).1 (g4 R h1 h2).2⟩, by dsimp only; omega, ⟨⟨rfl, rfl, rfl, rfl, rfl, rfl, trivial⟩, trivial, rfl, rfl⟩⟩
   ·refine ifd (fun ha0 => ?_) (fun ha0 => ?_)
    ·refine nEq (x := ((a - 1 : Nat) : Int)) (by rw [wrap64 (by omega) (by omega)]; omega) ?_
     refine idxI (a - 1) (by omega) (by omega) ?_
     refine rdI (by omega) ?_
     refine idxI (p) (by omega) (by omega) ?_
     refine rdI (by omega) ?_
     refine cGv (Less_spec _ _) ?_
     refine iIn (fun hnl => ?_) (fun hnl => ?_)
     ·refine cOw (partitionEqual_spec (pivot := p) hs1 (by omega) (by omega) hb hn) fun v μ6 h' hle' hap hR => ?_
      obtain ⟨rfl, e1, rfl⟩ := hR
      obtain rfl := e1.symm
      obtain ⟨mid, d4, hx⟩ : ∃ mid d4, partitionEqual ltInt d a b (p) = (mid, d4) := ⟨_, _, rfl⟩
      rw [hx]
      have q := round_eq swo_ltInt (partitionEqual_holds ltInt) (by omega) (by omega) (by omega) (by omega) hB (by simpa using hnl) hx
      have qa := q.1
      exact ⟨(mid, b, limit, true, wp, d4, _), ⟨q.2.1, hb, by dsimp only; omega, by dsimp only; omega, q.2.2.1.trans hs1, q.2.2.2.1, hle, fun R h1 h2 => hfin R (q.2.2.2.2 R h1 h2).1 (q.2.2.2.2 R h1 h2).2⟩, by dsimp only; omega, ⟨⟨rfl, rfl, rfl, rfl, rfl, rfl, trivial⟩, trivial, rfl, rfl⟩⟩
     ·refine cOw (partition_spec (pivot := p) hs1 (by omega) (by omega) hb hn) fun v μ6 h' hle' hap hR => ?_
      obtain ⟨⟨ap, rfl⟩, e1, rfl⟩ := hR
      obtain rfl := e1.symm
      obtain ⟨mid, ap', d4, hx⟩ : ∃ mid ap' d4, partition ltInt d a b (p) = (mid, ap', d4) := ⟨_, _, _, rfl⟩
      rw [hx]
      have w_ := round_part swo_ltInt (partition_holds ltInt) (by omega) (by omega) (by omega) hB hx
      obtain ⟨q1, q2, q3, q4, q5, q6, q7⟩ := w_
      refine nEq (x := ((mid - a : Nat) : Int)) (by rw [wrap64 (by omega) (by omega)]; omega) ?_
      refine nEq (x := ((b - mid : Nat) : Int)) (by rw [wrap64 (by omega) (by omega)]; omega) ?_
      refine need_intro (by decide) ?_
      refine nEq (x := (((b - a) / 8 : Nat) : Int)) (by rw [Int.tdiv_eq_ediv_of_nonneg (by omega), wrap64 (by omega) (by omega)]; omega) ?_
      refine ifd (fun hlt => ?_) (fun hlt => ?_)
      ·refine cOw (ih a mid (limit) d4 _ (by omega) (by omega) (by omega) (q3.trans hs1) (by omega) q4) fun v μ7 h' hle7 hap hR => ?_
       obtain ⟨rfl, L, g1, g2, rfl⟩ := hR
       have w_ := q6 L g1 g2
       obtain ⟨g3, g4⟩ := w_
       refine nEq (x := ((mid + 1 : Nat) : Int)) (by rw [wrap64 (by omega) (by omega)]; omega) ?_
       exact ⟨(mid + 1, b, limit, _, ap, L, μ7), ⟨by dsimp only; omega, hb, by dsimp only; omega, by dsimp only; omega, g1.1.trans (q3.trans hs1), g3, hle.trans hle7, fun R h1 h2 => hfin R (g4 R h1 h2).1 (g4 R h1 h2).2⟩, by dsimp only; omega, ⟨⟨rfl, rfl, rfl, rfl, rfl, rfl, trivial⟩, trivial, rfl, rfl⟩⟩
      ·refine nEq (x := ((mid + 1 : Nat) : Int)) (by rw [wrap64 (by omega) (by omega)]; omega) ?_
       refine cOw (ih (mid + 1) b (limit) d4 _ (by omega) (by omega) (by omega) (q3.trans hs1) (by omega) q5) fun v μ7 h' hle7 hap hR => ?_
       obtain ⟨rfl, L, g1, g2, rfl⟩ := hR
       have w_ := q7 L g1 g2
       obtain ⟨g3, g4⟩ := w_
       exact ⟨(a, mid, limit, _, ap, L, μ7), ⟨by dsimp only; omega, by dsimp only; omega, by dsimp only; omega, by dsimp only; omega, g1.1.trans (q3.trans hs1), g3, hle.trans hle7, fun R h1 h2 => hfin R (g4 R h1 h2).1 (g4 R h1 h2).2⟩, by dsimp only; omega, ⟨⟨rfl, rfl, rfl, rfl, rfl, rfl, trivial⟩, trivial, rfl, rfl⟩⟩
    ·refine cOw (partition_spec (pivot := p) hs1 (by omega) (by omega) hb hn) fun v μ6 h' hle' hap hR => ?_
     obtain ⟨⟨ap, rfl⟩, e1, rfl⟩ := hR
     obtain rfl := e1.symm
     obtain ⟨mid, ap', d4, hx⟩ : ∃ mid ap' d4, partition ltInt d a b (p) = (mid, ap', d4) := ⟨_, _, _, rfl⟩
     rw [hx]
     have w_ := round_part swo_ltInt (partition_holds ltInt) (by omega) (by omega) (by omega) hB hx
     obtain ⟨q1, q2, q3, q4, q5, q6, q7⟩ := w_
     refine nEq (x := ((mid - a : Nat) : Int)) (by rw [wrap64 (by omega) (by omega)]; omega) ?_
     refine nEq (x := ((b - mid : Nat) : Int)) (by rw [wrap64 (by omega) (by omega)]; omega) ?_
     refine need_intro (by decide) ?_
     refine nEq (x := (((b - a) / 8 : Nat) : Int)) (by rw [Int.tdiv_eq_ediv_of_nonneg (by omega), wrap64 (by omega) (by omega)]; omega) ?_
     refine ifd (fun hlt => ?_) (fun hlt => ?_)
     ·refine cOw (ih a mid (limit) d4 _ (by omega) (by omega) (by omega) (q3.trans hs1) (by omega) q4) fun v μ7 h' hle7 hap hR => ?_
      obtain ⟨rfl, L, g1, g2, rfl⟩ := hR
      have w_ := q6 L g1 g2
      obtain ⟨g3, g4⟩ := w_
      refine nEq (x := ((mid + 1 : Nat) : Int)) (by rw [wrap64 (by omega) (by omega)]; omega) ?_
      exact ⟨(mid + 1, b, limit, _, ap, L, μ7), ⟨by dsimp only; omega, hb, by dsimp only; omega, by dsimp only; omega, g1.1.trans (q3.trans hs1), g3, hle.trans hle7, fun R h1 h2 => hfin R (g4 R h1 h2).1 (g4 R h1 h2).2⟩, by dsimp only; omega, ⟨⟨rfl, rfl, rfl, rfl, rfl, rfl, trivial⟩, trivial, rfl, rfl⟩⟩
     ·refine nEq (x := ((mid + 1 : Nat) : Int)) (by rw [wrap64 (by omega) (by omega)]; omega) ?_
      refine cOw (ih (mid + 1) b (limit) d4 _ (by omega) (by omega) (by omega) (q3.trans hs1) (by omega) q5) fun v μ7 h' hle7 hap hR => ?_
      obtain ⟨rfl, L, g1, g2, rfl⟩ := hR
      have w_ := q7 L g1 g2
      obtain ⟨g3, g4⟩ := w_
      exact ⟨(a, mid, limit, _, ap, L, μ7), ⟨by dsimp only; omega, by dsimp only; omega, by dsimp only; omega, by dsimp only; omega, g1.1.trans (q3.trans hs1), g3, hle.trans hle7, fun R h1 h2 => hfin R (g4 R h1 h2).1 (g4 R h1 h2).2⟩, by dsimp only; omega, ⟨⟨rfl, rfl, rfl, rfl, rfl, rfl, trivial⟩, trivial, rfl, rfl⟩⟩
end
end Go.Vx
namespace Go.Vx
open Go.Proofs Classical
open Go.Sort
section
variable {h0 μ : Mem} {r : Nat} {ty : TypeId} {rest : List Value}
theorem Sort_spec {n cap : Nat} {d : Array Int} (hr : h0 r = none) (hd : d.size = n) (hn : n ≤ 1000000000000) :
  SpecH Try.prog 159 [.slice (some ⟨r, 0, none⟩) n cap] μ (RowI h0 r ty rest d) fun v _μ' h' => v = .tuple #[] ∧ h' = RowI h0 r ty rest (d.toList.mergeSort fun x y => decide (x ≤ y)).toArray := by
 refine SpecH.mk [] Try.func159 (by kernel_rfl) ?_
 refine nEq (x := (n : Int)) (by
  show (n : Int) % 18446744073709551616 = _
  omega) ?_
 refine cGv (Len_spec (by omega)) ?_
 have hL : bitsLen n ≤ 40 := (bitsLen_le_iff n 40).2 (by omega)
 refine cOw (pdqsort_spec hr hn (n + 1) 0 n (bitsLen n) d μ (by omega) (by omega) (Nat.le_refl _) hd (by omega) (.inl rfl)) fun v μ' h' hle hap hR => ?_
 obtain ⟨rfl, d', p1, p2, rfl⟩ := hR
 have e := sorted_unique_holds (lt := ltInt) swo_ltInt (fun x y h1 h2 => by
  simp only [ltInt, decide_eq_false_iff_not] at h1 h2
  omega) d d' (by rw [hd]; exact p1) (by rw [hd]; exact p2)
 have e2 : (fun x y => !ltInt y x) = fun x y : Int => decide (x ≤ y) := by
  funext x y
  simp only [ltInt]
  by_cases h : x ≤ y
  ·rw [decide_eq_true h, decide_eq_false (by omega)]; rfl
  ·rw [decide_eq_false h, decide_eq_true (by omega)]; rfl
 rw [e2] at e
 refine rPl ⟨rfl, ?_⟩
 rw [← e]
theorem Ints_spec {n cap : Nat} {d : Array Int} (hr : h0 r = none) (hd : d.size = n) (hn : n ≤ 1000000000000) :
  SpecH Try.prog 126 [.slice (some ⟨r, 0, none⟩) n cap] μ (RowI h0 r ty rest d) fun v _μ' h' => v = .tuple #[] ∧ h' = RowI h0 r ty rest (d.toList.mergeSort fun x y => decide (x ≤ y)).toArray := by
 refine SpecH.mk [] Try.func126 (by kernel_rfl) ?_
 refine cOw (Sort_spec hr hd hn) fun v μ' h' hle hap hR => ?_
 obtain ⟨rfl, rfl⟩ := hR
 exact rPl ⟨rfl, rfl⟩
end
end Go.Vx
namespace Go.Vx
open Go.Proofs Classical
open Go.Sort
theorem keys_ints {l : List (Value × Value)} (h : MapOk IntKey l) : ∃ ks : List Int, l.map Prod.fst = ints ks ∧ ks.Nodup := by
 have h1 : ∀ (l : List (Value × Value)), (∀ p ∈ l, IntKey p.1) → ∃ ks : List Int, l.map Prod.fst = ints ks := fun l => by
  induction l with
  | nil => intro _; exact ⟨[], rfl⟩
  | cons p l ih =>
   intro h
   have w_ := ih fun q hq => h q (by simp [hq])
   obtain ⟨ks, hks⟩ := w_
   have w_ := h p (by simp)
   obtain ⟨n, hn⟩ := w_
   exact ⟨n :: ks, by rw [List.map_cons, hks, hn]; rfl⟩
 have w_ := h1 l h.keys
 obtain ⟨ks, hks⟩ := w_
 refine ⟨ks, hks, ?_⟩
 have hn := h.nodup
 rw [hks, ints] at hn
 exact List.Pairwise.of_map (S := fun a b => a ≠ b) _ (fun a b hab e => hab (by rw [e])) hn
theorem mget_keys {l : List (Value × Value)} {ks : List Int} (h : l.map Prod.fst = ints ks) (n : Int) : (mget l (.int .i64 n)).isSome ↔ n ∈ ks := by
 have e : n ∈ ks ↔ Value.int .i64 n ∈ l.map Prod.fst := by
  rw [h, ints, List.mem_map]
  exact ⟨fun k => ⟨n, k, rfl⟩, fun ⟨m, k, e⟩ => by cases e; exact k⟩
 rw [e]
 clear e h
 induction l with
 | nil => simp [mget]
 | cons p l ih =>
  obtain ⟨a, v⟩ := p
  rw [mget]
  by_cases h : a = .int .i64 n
  ·rw [if_pos h]; simp [h]
  ·rw [if_neg h]
   refine ih.trans ?_
   simp only [List.map_cons, List.mem_cons]
   exact ⟨.inr, fun k => k.elim (fun e => absurd e.symm h) id⟩
theorem nodup_len {N : Nat} {l : List Nat} (h : l.Nodup) (hb : ∀ j ∈ l, j < N) : l.length ≤ N := by
 have h1 : (l.map fun j : Nat => (j : Int)).Nodup := List.Pairwise.map (S := fun a b => a ≠ b) _ (fun a b hab e => hab (by omega)) h
 have := nodup_range (N := N) h1 fun n hn => by
  have w_ := List.mem_map.1 hn
  obtain ⟨j, hj, rfl⟩ := w_
  have := hb j hj; omega
 rwa [List.length_map] at this
theorem ints_own : ∀ l : List Int, OwnRows 1 (l.map D.i) (ints l) Mem.nil
 | [] => OwnRows.nil 1
 | n :: l => ⟨by
   have := (ints_own l).own
   exact OwnS.int this, by
   intro x hx
   have w_ := List.mem_map.1 hx
   obtain ⟨m, _, rfl⟩ := w_
   rfl, by simp [ints]⟩
theorem srt_lt (D : List Int) (h : D.Nodup) : (D.mergeSort fun x y => decide (x ≤ y)).Pairwise (· < ·) := by
 have h1 := List.pairwise_mergeSort (le := fun x y : Int => decide (x ≤ y)) (fun a b c h1 h2 => by simp at *; omega) (fun a b => by simp; omega) D
 have h2 : (D.mergeSort fun x y => decide (x ≤ y)).Nodup := ((List.mergeSort_perm D _).nodup_iff).2 h
 rw [List.nodup_iff_pairwise_ne] at h2
 exact List.Pairwise.imp (fun ⟨a, b⟩ => by simp at a; omega) (h1.and h2)
theorem getD_at {ks : List Int} {j : Nat} (h : j < ks.length) : ks[j]? = some (ks.getD j 0) := by
 rw [List.getD_eq_getElem?_getD, List.getElem?_eq_getElem h]; rfl
theorem picked {ks : List Int} (hnd : ks.Nodup) {seen : List Nat} (hsn : seen.Nodup) (hsl : ∀ j ∈ seen, j < ks.length) : (seen.map fun j => ks.getD j 0).Nodup := by
 rw [List.nodup_iff_pairwise_ne, List.pairwise_map]
 rw [List.nodup_iff_pairwise_ne] at hsn
 refine hsn.imp_of_mem fun {a b} ha hb hab e => hab ?_
 have h1 := idx_at hnd (getD_at (hsl a ha))
 have h2 := idx_at hnd (getD_at (hsl b hb))
 rw [e] at h1
 omega
theorem picked_mem {ks : List Int} {seen : List Nat} (hsl : ∀ j ∈ seen, j < ks.length) (hall : ∀ j, j < ks.length → j ∈ seen) (n : Int) : n ∈ (seen.map fun j => ks.getD j 0) ↔ n ∈ ks := by
 rw [List.mem_map]
 constructor
 ·rintro ⟨j, hj, rfl⟩
  exact List.mem_of_getElem? (getD_at (hsl j hj))
 ·intro h
  have w_ := List.mem_iff_getElem?.1 h
  obtain ⟨j, hj⟩ := w_
  have hjl := (List.getElem?_eq_some_iff.1 hj).1
  refine ⟨j, hall j hjl, ?_⟩
  rw [getD_at hjl] at hj
  exact Option.some.inj hj
section
variable {μ h : Mem}
theorem sortedInts_spec {m : Nat} {l : List (Value × Value)} (hm : h m = some (mapO l)) (hk : MapOk IntKey l) (hn : l.length ≤ 1000000) :
  SpecH Try.prog 88 [.map (some m)] μ h fun v μ' h' => h' = h ∧ ∃ xs : List Int, (∀ n, n ∈ xs ↔ (mget l (.int .i64 n)).isSome) ∧ xs.Pairwise (· < ·) ∧ Fresh μ μ' (.sl 1 (xs.map D.i)) v := by
 have w_ := keys_ints hk
 obtain ⟨ks, hks, hnd⟩ := w_
 have hkl : ks.length = l.length := by
  have := congrArg List.length hks
  simpa [ints] using this.symm
 refine SpecH.mk [] Try.func88 (by kernel_rfl) ?_
 intro r5
 refine mlen_intro l hm ?_
 intro ri hmi hoi
 have hne : m ≠ ri := ne_of_none hm hoi
 refine lIn (fun p : List Nat × Option Nat × Nat × List Value => p.2.1 ≠ none ∧ p.1.Nodup ∧ (∀ j ∈ p.1, j < l.length) ∧ p.2.2.2 = ints (p.1.map fun j => ks.getD j 0))
  (fun (seen, b, c, ys) => ⟨[(3, .row 0 b ys.length c), (7, .val (.pointer (some ⟨ri, 0, none⟩)))], [(0, some (.row b c 3 1 ys))], 1, μ, h.set ri (iterO m l.length seen l.length)⟩) (fun p => l.length - p.1.length)
  ([], some r5, 0, []) ⟨by simp, by simp, by simp, rfl⟩ (fun (_, _, _, _) => ⟨rfl, rfl⟩) ⟨⟨rfl, rfl, trivial⟩, ⟨rfl, trivial⟩, rfl, rfl⟩ ?_
 rintro ⟨seen, b, c, ys⟩ ⟨hb, hsn, hsl, hys⟩
 dsimp only at hb hsn hsl hys
 have hslen := nodup_len hsn hsl
 refine next_intro m seen l.length l (Mem.set_at _ _ _) ((Mem.set_ne hne).trans hm) (Nat.le_refl _) (fun hall => ?_) (fun j k v hj hns => ?_)
 rotate_left
 ·have hjl := (List.getElem?_eq_some_iff.1 hj).1
  have hkj : k = .int .i64 (ks.getD j 0) := by
   have h1 : (l.map Prod.fst)[j]? = some k := by simp [hj]
   rw [hks, ints, List.getElem?_map] at h1
   have h2 : j < ks.length := by omega
   rw [List.getElem?_eq_getElem h2] at h1
   simp only [Option.map_some, Option.some.injEq] at h1
   rw [← h1, List.getD_eq_getElem?_getD, List.getElem?_eq_getElem h2]; rfl
  subst hkj
  rw [Mem.set_set]
  refine iIn (fun _ => ?_) (fun h => nomatch h)
  refine ent_intro m l.length seen j l _ v (Mem.set_at _ _ _) ((Mem.set_ne hne).trans hm) hj ?_
  intro r6
  have hyl : ys.length = seen.length := by rw [hys]; simp [ints]
  refine gIn ?_ ?_ fun b' c' hb' => ?_
  ·show (ys.length + 1) * 8 ≤ _; omega
  ·exact Nat.le_trans (m := 100000000) (show ys.length + 1 ≤ _ by omega) (by decide)
  have hsl2 : ∀ i ∈ seen ++ [j], i < l.length := fun i hi => by
   rcases List.mem_append.1 hi with hi | hi
   ·exact hsl i hi
   ·rw [List.mem_singleton] at hi; subst hi; exact hjl
  have hsn2 : (seen ++ [j]).Nodup := by
   rw [List.nodup_append]
   refine ⟨hsn, by simp, fun a ha b hb e => ?_⟩
   rw [List.mem_singleton] at hb
   subst hb; subst e; exact hns ha
  have hs3 := nodup_len hsn2 hsl2
  rw [List.length_append, List.length_singleton] at hs3
  exact ⟨(seen ++ [j], b', c', ys ++ [.int .i64 (ks.getD j 0)]), ⟨by
   dsimp only
   intro e
   have := hb' e
   simp at this, hsn2, hsl2, by dsimp only; rw [List.map_append, ints, List.map_append, hys]; rfl⟩, by dsimp only; rw [List.length_append, List.length_singleton]; omega, ⟨⟨rfl, rfl, trivial⟩, ⟨rfl, trivial⟩, rfl, rfl⟩⟩
 ·refine iIn (fun h => nomatch h) (fun _ => ?_)
  have hp := picked hnd hsn (by rw [hkl]; exact hsl)
  have hpm := picked_mem (by rw [hkl]; exact hsl) (by rw [hkl]; exact hall) (ks := ks) (seen := seen)
  have hDs : (seen.map (fun j => ks.getD j 0)).length = seen.length := by simp
  generalize seen.map (fun j => ks.getD j 0) = D at *
  subst hys
  have w_ := Option.ne_none_iff_exists'.1 hb
  obtain ⟨b0, rfl⟩ := w_
  have hDl : (ints D).length = D.length := by simp [ints]
  refine call_gen [] [0] (fun h => nomatch h) ?_
  intro h' hmem hgiven
  obtain ⟨hb0, hlen, hcap, hone, cs, rfl, hcs, htake⟩ := hgiven
  replace hb0 : (Mem.set h ri (iterO m l.length seen l.length)) b0 = none := hb0
  replace hmem : μ b0 = none := hmem b0 rfl
  obtain ⟨rest, rfl⟩ : ∃ rest, cs = ints D ++ rest := by
   refine ⟨cs.drop ((ints D).length * 1), ?_⟩
   rw [ints_flat] at htake
   conv => lhs; rw [← List.take_append_drop ((ints D).length * 1) cs, htake]
  have hD6 : D.length ≤ 1000000000000 := by omega
  refine own_go (Ints_spec (h0 := h.set ri (iterO m l.length seen l.length)) (r := b0) (ty := 3) (rest := rest) (d := D.toArray) hb0 (by simp [ints]) (by omega)) fun v μ' h'' hle hap hR => ?_
  obtain ⟨rfl, rfl⟩ := hR
  have f1 : (D.toArray.toList.mergeSort fun x y => decide (x ≤ y)).Pairwise (· < ·) := srt_lt D hp
  have f2 : ∀ n, n ∈ (D.toArray.toList.mergeSort fun x y => decide (x ≤ y)) ↔ n ∈ D := fun n => (List.mergeSort_perm D _).mem_iff
  have f3 : (D.toArray.toList.mergeSort fun x y => decide (x ≤ y)).length = D.length := (List.mergeSort_perm D _).length_eq
  generalize (D.toArray.toList.mergeSort fun x y => decide (x ≤ y)) = S at *
  have hbr : b0 ≠ ri := fun e => by subst e; rw [Mem.set_at] at hb0; cases hb0
  have hhb : h b0 = none := by rwa [Mem.set_ne hbr] at hb0
  have hb1 : μ' b0 = none := by
   cases e : μ' b0 with
   | none => rfl
   | some o => have := hap b0 (by simp [e]); rw [RowI, Mem.set_at] at this; cases this
  have hSl : (ints S).length = S.length := by simp [ints]
  refine ret_own ((Mem.nil.set ri (iterO m l.length seen l.length)).set b0 (.cells (List.toArray ([] ++ (S.toArray.toList.map (Value.int .i64) ++ rest))) 3 (0, 0))) h ?_ ⟨rfl, S, fun n => (f2 n).trans ((hpm n).trans (mget_keys hks n).symm), f1, ?_⟩
  ·show Parts (RowI (h.set ri (iterO m l.length seen l.length)) b0 3 rest S.toArray) _ h
   replace hoi : h ri = none := hoi
   intro x
   by_cases h1 : x = b0
   ·subst h1; exact .inl ⟨by rw [RowI, Mem.set_at, Mem.set_at], hhb⟩
   ·by_cases h2 : x = ri
    ·subst h2; exact .inl ⟨by rw [RowI, Mem.set_ne h1, Mem.set_ne h1, Mem.set_at, Mem.set_at], hoi⟩
    ·exact .inr ⟨by rw [RowI, Mem.set_ne h1, Mem.set_ne h2], by rw [Mem.set_ne h1, Mem.set_ne h2]; rfl⟩
  ·have F := Fresh.ofRow (μ := μ) (μ1 := μ) (μ' := μ'.join ((Mem.nil.set ri (iterO m l.length seen l.length)).set b0 (.cells (List.toArray ([] ++ (S.toArray.toList.map (Value.int .i64) ++ rest))) 3 (0, 0)))) (b := some b0) (cap := c) (ints_own S) (fun _ _ h => nomatch h) (fun _ h => absurd rfl h) (Mem.Le.refl _) (hle.trans (Mem.le_join _ _)) (fun r e => by cases e; exact hmem)
    ⟨by omega, fun x hx => by
     have w_ := List.mem_map.1 hx
     obtain ⟨n, _, rfl⟩ := w_
     exact ⟨rfl, by simp [vcells, Value.oneCell']⟩, _, _, by rw [Mem.join_get, hb1, Mem.set_at], by
      simp only [List.length_append, ints, List.length_map] at hcs
      simp [f3]; omega, by rw [ints_flat]; simp [ints]⟩ (Nat.le_trans (m := 1000000) (by omega) (by decide))
   have e : (ints D).length = (ints S).length := by omega
   show Fresh μ _ (.sl 1 (S.map Go.Vx.D.i)) (.slice _ (ints D).length c)
   rw [e]; exact F
end
end Go.Vx
namespace Go.Vx
open Go.Proofs Classical
section
variable {μ : Mem}
theorem Fresh.bd {μ' : Mem} {n : Int} {x : T} {q : Option Addr × Nat} (h : Fresh μ μ' x.tm.d (.agg (x.tm.cs q).toArray)) (hle : μ.Le μ') : Fresh μ μ' (B.bd ⟨n, x⟩).d (.agg (Value.int .i64 n :: x.tm.cs q).toArray) := by
 have := (FreshS.int (n := n) (FreshS.cons h hle (Mem.Le.refl _) FreshS.nil)).st
 have e : vcells (.agg (x.tm.cs q).toArray) ++ [] = x.tm.cs q := by simp [vcells]
 rw [e] at this
 exact this
set_option maxHeartbeats 4000000 in
theorem RepV.bd {n : Int} {x : T} {q : Option Addr × Nat} (h : RepV μ x.tm.d (.agg (x.tm.cs q).toArray)) : RepV μ (B.bd ⟨n, x⟩).d (.agg (Value.int .i64 n :: x.tm.cs q).toArray) := by
 have hc := RepV.cells h
 have e : vcells (.agg (x.tm.cs q).toArray) = x.tm.cs q := by simp [vcells]
 rw [e] at hc
 exact ⟨_, rfl, RepS.int (RepS.last hc)⟩
end
end Go.Vx
namespace Go.Vx
open Go.Sort
section
variable {α : Type} {lt : α → α → Bool}
end
section
variable {α : Type} [Inhabited α] {lt : α → α → Bool} {d c R : Array α}
structure Sw (a b n : Nat) (d d' : Array α) : Prop where
 size : d'.size = d.size
 fst : ∀ t, t < n → d'[a + t]! = d[b + t]!
 snd : ∀ t, t < n → d'[b + t]! = d[a + t]!
 out : ∀ k, k < a ∨ a + n ≤ k → k < b ∨ b + n ≤ k → d'[k]! = d[k]!
theorem Sw.nil (a b : Nat) (d : Array α) : Sw a b 0 d d := ⟨rfl, fun t h => by omega, fun t h => by omega, fun _ _ _ => rfl⟩
theorem Sw.step {a b n : Nat} (h : Sw a b n d c) (h1 : a + n < b) (h2 : b + n < d.size) : Sw a b (n + 1) d (swp c (a + n) (b + n)) := by
 have g : ∀ k, (swp c (a + n) (b + n))[k]! = if k = b + n then c[a + n]! else if k = a + n then c[b + n]! else c[k]! := fun k => swp_get c (by rw [h.size]; omega) (by rw [h.size]; omega) k
 refine ⟨by rw [Go.Sort.swp_size, h.size], fun t ht => ?_, fun t ht => ?_, fun k hk1 hk2 => ?_⟩
 ·rw [g, if_neg (by omega)]
  by_cases e : t = n
  ·subst e; rw [if_pos rfl, h.out _ (by omega) (by omega)]
  ·rw [if_neg (by omega), h.fst t (by omega)]
 ·rw [g]
  by_cases e : t = n
  ·subst e; rw [if_pos rfl, h.out _ (by omega) (by omega)]
  ·rw [if_neg (by omega), if_neg (by omega), h.snd t (by omega)]
 ·rw [g, if_neg (by omega), if_neg (by omega), h.out k (by omega) (by omega)]
structure Rot (a m b : Nat) (d d' : Array α) : Prop where
 size : d'.size = d.size
 out : ∀ k, k < a ∨ b ≤ k → d'[k]! = d[k]!
 lo : ∀ t, t < b - m → d'[a + t]! = d[m + t]!
 hi : ∀ t, t < m - a → d'[a + (b - m) + t]! = d[a + t]!
theorem Rot.same {m i : Nat} (hi : i ≤ m) (s : Sw (m - i) m i d R) : Rot (m - i) m (m + i) d R where
 size := s.size
 out k hk := s.out k (by omega) (by omega)
 lo t ht := s.fst t (by omega)
 hi t ht := by rw [show m - i + (m + i - m) + t = m + t by omega]; exact s.snd t (by omega)
section
variable {s m e : Nat}
theorem SortedIn.sub {a b a' b' : Nat} (h : SortedIn lt a b d) (h1 : a ≤ a') (h2 : b' ≤ b) : SortedIn lt a' b' d := fun i j hi hij hj => h i j (by omega) hij (by omega)
structure Cut (lt : α → α → Bool) (a s m e b : Nat) (d : Array α) : Prop where
 sa : a ≤ s
 sm : s ≤ m
 me : m ≤ e
 eb : e ≤ b
 lo : ∀ x y, a ≤ x → x < s → e ≤ y → y < b → lt d[y]! d[x]! = false
 hi : ∀ x y, s ≤ x → x < m → m ≤ y → y < e → lt d[x]! d[y]! = false
theorem Rot.up {a i : Nat} (h : Rot a (a + 1) (i + 1) d c) (ha : a ≤ i) (hi : i + 1 < d.size) : Rot a (a + 1) (i + 2) d (swp c i (i + 1)) := by
 have g : ∀ k, (swp c i (i + 1))[k]! = if k = i + 1 then c[i]! else if k = i then c[i + 1]! else c[k]! := fun k => swp_get c (by rw [h.size]; omega) (by rw [h.size]; omega) k
 refine ⟨by rw [Go.Sort.swp_size, h.size], fun k hk => ?_, fun t ht => ?_, fun t ht => ?_⟩
 ·rw [g, if_neg (by omega), if_neg (by omega), h.out k (by omega)]
 ·rw [g, if_neg (by omega)]
  by_cases e : a + t = i
  ·rw [if_pos e, h.out _ (by omega), show a + 1 + t = i + 1 by omega]
  ·rw [if_neg e, h.lo t (by omega)]
 ·obtain rfl : t = 0 := by omega
  rw [g, if_pos (by omega)]
  have := h.hi 0 (by omega)
  rwa [show a + (i + 1 - (a + 1)) + 0 = i by omega] at this
end
end
end Go.Vx
namespace Go.Vx
open Go.Proofs Classical
structure Ord3 {α : Type} (c : α → α → Int) : Prop where
 zero : ∀ x y, c x y = 0 ↔ x = y
 anti : ∀ x y, c x y < 0 ↔ 0 < c y x
 trans : ∀ x y z, c x y < 0 → c y z < 0 → c x z < 0
def lexI (p q : Int) : Int := if p = 0 then q else p
theorem lexI_zero {p q : Int} : lexI p q = 0 ↔ p = 0 ∧ q = 0 := by unfold lexI; split <;> omega
theorem lexI_anti {p q p' q' : Int} (h1 : p < 0 ↔ 0 < p') (h2 : p' < 0 ↔ 0 < p) (h3 : p = 0 → (q < 0 ↔ 0 < q')) : lexI p q < 0 ↔ 0 < lexI p' q' := by
 unfold lexI
 split
 ·rename_i h
  rw [if_pos (by omega)]; exact h3 h
 ·rw [if_neg (by omega)]; exact h1
theorem lexI_trans {p1 q1 p2 q2 p3 q3 : Int} (t : p1 < 0 → p2 < 0 → p3 < 0) (e1 : p1 = 0 → p3 = p2) (e2 : p2 = 0 → p3 = p1) (r : p1 = 0 → p2 = 0 → q1 < 0 → q2 < 0 → q3 < 0) : lexI p1 q1 < 0 → lexI p2 q2 < 0 → lexI p3 q3 < 0 := by
 unfold lexI
 intro h1 h2
 by_cases k1 : p1 = 0
 ·rw [if_pos k1] at h1
  have := e1 k1
  by_cases k2 : p2 = 0
  ·rw [if_pos k2] at h2
   rw [if_pos (by omega)]; exact r k1 k2 h1 h2
  ·rw [if_neg k2] at h2
   rw [if_neg (by omega)]; omega
 ·rw [if_neg k1] at h1
  by_cases k2 : p2 = 0
  ·have := e2 k2
   rw [if_neg (by omega)]; omega
  ·rw [if_neg k2] at h2
   have := t h1 h2
   rw [if_neg (by omega)]; exact this
theorem Ord3.lex_trans {α : Type} {c : α → α → Int} (h : Ord3 c) {x y z : α} {q1 q2 q3 : Int} (r : x = y → y = z → q1 < 0 → q2 < 0 → q3 < 0) : lexI (c x y) q1 < 0 → lexI (c y z) q2 < 0 → lexI (c x z) q3 < 0 :=
 lexI_trans (h.trans x y z) (fun e => by rw [(h.zero _ _).1 e]) (fun e => by rw [(h.zero _ _).1 e]) fun e1 e2 => r ((h.zero _ _).1 e1) ((h.zero _ _).1 e2)
theorem Ord3.lex_anti {α : Type} {c : α → α → Int} (h : Ord3 c) {x y : α} {q q' : Int} (r : x = y → (q < 0 ↔ 0 < q')) : lexI (c x y) q < 0 ↔ 0 < lexI (c y x) q' :=
 lexI_anti (h.anti x y) (h.anti y x) fun e => r ((h.zero _ _).1 e)
def cInt (a b : Int) : Int := if a = b then 0 else sgn (decide (a < b))
theorem cInt_ord : Ord3 cInt where
 zero x y := by
  unfold cInt sgn
  by_cases h : x = y
  ·simp [h]
  ·by_cases g : x < y <;> simp [h, g]
 anti x y := by
  unfold cInt sgn
  by_cases h : x = y
  ·simp [h]
  ·rw [if_neg h, if_neg (Ne.symm h)]
   by_cases g : x < y
   ·have g2 : ¬ y < x := by omega
    simp [g, g2]
   ·have g2 : y < x := by omega
    simp [g, g2]
 trans x y z := by
  unfold cInt sgn
  by_cases h : x = y <;> by_cases h2 : y = z <;> by_cases h3 : x = z <;> by_cases g : x < y <;> by_cases g2 : y < z <;> by_cases g3 : x < z <;> simp [h, h2, h3, g, g2, g3] <;> omega
theorem bl_irrefl : ∀ l : List UInt8, Op.bytesLess l l = false
 | [] => rfl
 | a :: l => by rw [Op.bytesLess]; simp [bl_irrefl l]
theorem bl_trans : ∀ x y z : List UInt8, Op.bytesLess x y = true → Op.bytesLess y z = true → Op.bytesLess x z = true
 | x, y, [], h1, h2 => by simp [Op.bytesLess] at h2
 | x, [], c :: z, h1, h2 => by cases x <;> simp [Op.bytesLess] at h1
 | [], b :: y, c :: z, h1, h2 => rfl
 | a :: x, b :: y, c :: z, h1, h2 => by
  simp only [Op.bytesLess, Bool.or_eq_true, decide_eq_true_eq, Bool.and_eq_true, beq_iff_eq] at h1 h2 ⊢
  rcases h1 with h1 | ⟨rfl, h1⟩
  ·rcases h2 with h2 | ⟨rfl, h2⟩
   ·exact .inl (UInt8.lt_trans h1 h2)
   ·exact .inl h1
  ·rcases h2 with h2 | ⟨rfl, h2⟩
   ·exact .inl h2
   ·exact .inr ⟨rfl, bl_trans x y z h1 h2⟩
theorem bl_other {x y : List UInt8} (h : x ≠ y) : Op.bytesLess y x = !Op.bytesLess x y := by
 rw [← bytesLess_total x y]
 have : (x == y) = false := by simpa using h
 rw [this, Bool.or_false]
theorem bytes_ne {x y : ByteArray} (h : ¬ x = y) : x.data.toList ≠ y.data.toList := fun k => h (by
 cases x; cases y
 simp only [ByteArray.mk.injEq]
 exact Array.ext' k)
noncomputable def cName (a b : ByteArray) : Int := if a = b then 0 else sgn (Op.bytesLess a.data.toList b.data.toList)
theorem cName_ord : Ord3 cName where
 zero x y := by
  unfold cName
  by_cases h : x = y
  ·simp [h]
  ·rw [if_neg h]; exact ⟨fun k => absurd k (sgn_ne _), fun k => absurd k h⟩
 anti x y := by
  unfold cName
  by_cases h : x = y
  ·simp [h]
  ·rw [if_neg h, if_neg (Ne.symm h), bl_other (bytes_ne h)]
   cases Op.bytesLess x.data.toList y.data.toList <;> simp [sgn]
 trans x y z := by
  unfold cName
  intro h1 h2
  split at h1
  ·omega
  split at h2
  ·omega
  have k1 : Op.bytesLess x.data.toList y.data.toList = true := by
   cases e : Op.bytesLess x.data.toList y.data.toList with
   | true => rfl
   | false => rw [e] at h1; simp [sgn] at h1
  have k2 : Op.bytesLess y.data.toList z.data.toList = true := by
   cases e : Op.bytesLess y.data.toList z.data.toList with
   | true => rfl
   | false => rw [e] at h2; simp [sgn] at h2
  have k3 := bl_trans _ _ _ k1 k2
  have k4 : ¬ x = z := fun e => by
   rw [e, bl_irrefl] at k3; exact absurd k3 (by decide)
  rw [if_neg k4, k3]
  decide
theorem hd_lex (x y : Tm) (r : Int) : hdCmp x y r = lexI (cInt x.kind y.kind) (lexI (cInt x.num y.num) (lexI (cName x.name y.name) r)) := by
 unfold hdCmp lexI cInt cName
 by_cases h1 : x.kind = y.kind <;> by_cases h2 : x.num = y.num <;> by_cases h3 : x.name = y.name <;> simp [h1, h2, h3, sgn_ne]
theorem T.cmp_anti : ∀ x y : T, x.cmp y < 0 ↔ 0 < y.cmp x := by
 intro x
 induction x with
 | pair a b iha ihb =>
  intro y
  rw [T.cmp_eq, T.cmp_eq y, hd_lex, hd_lex]
  refine cInt_ord.lex_anti fun _ => cInt_ord.lex_anti fun _ => cName_ord.lex_anti fun _ => ?_
  cases y with
  | pair c d =>
   show lexI (a.cmp c) (b.cmp d) < 0 ↔ 0 < lexI (c.cmp a) (d.cmp b)
   refine lexI_anti (iha c) ?_ fun _ => ihb d
   have h1 := iha c; have h2 := T.cmp_zero a c; have h3 := T.cmp_zero c a
   by_cases e : a = c
   ·have := h2.2 e; have := h3.2 e.symm; omega
   ·have : a.cmp c ≠ 0 := fun k => e (h2.1 k)
    have : c.cmp a ≠ 0 := fun k => e (h3.1 k).symm
    omega
  | _ => exact Iff.rfl
 | _ =>
  intro y
  rw [T.cmp_eq, T.cmp_eq y, hd_lex, hd_lex]
  refine cInt_ord.lex_anti fun _ => cInt_ord.lex_anti fun _ => cName_ord.lex_anti fun _ => ?_
  cases y <;> exact Iff.rfl
theorem T.cmp_trans : ∀ x y z : T, x.cmp y < 0 → y.cmp z < 0 → x.cmp z < 0 := by
 intro x
 induction x with
 | pair a b iha ihb =>
  intro y z
  rw [T.cmp_eq, T.cmp_eq y, T.cmp_eq _ z, hd_lex, hd_lex, hd_lex]
  refine cInt_ord.lex_trans fun _ _ => cInt_ord.lex_trans fun _ _ => cName_ord.lex_trans fun _ _ => ?_
  cases y with
  | pair c d =>
   cases z with
   | pair e f =>
    show lexI (a.cmp c) (b.cmp d) < 0 → lexI (c.cmp e) (d.cmp f) < 0 → lexI (a.cmp e) (b.cmp f) < 0
    exact lexI_trans (iha c e) (fun k => by rw [(T.cmp_zero _ _).1 k]) (fun k => by rw [(T.cmp_zero _ _).1 k]) fun _ _ => ihb d f
   | _ => exact fun _ h => absurd h (Int.lt_irrefl 0)
  | _ => exact fun h => absurd h (Int.lt_irrefl 0)
 | _ =>
  intro y z
  rw [T.cmp_eq, T.cmp_eq y, T.cmp_eq _ z, hd_lex, hd_lex, hd_lex]
  refine cInt_ord.lex_trans fun _ _ => cInt_ord.lex_trans fun _ _ => cName_ord.lex_trans fun _ _ => ?_
  exact fun h => absurd h (Int.lt_irrefl 0)
theorem T.cmp_ord : Ord3 T.cmp := ⟨T.cmp_zero, T.cmp_anti, T.cmp_trans⟩
def cmpList {α : Type} (c : α → α → Int) : List α → List α → Int
 | [], [] => 0
 | [], _ :: _ => -1
 | _ :: _, [] => 1
 | a :: l, b :: m => lexI (c a b) (cmpList c l m)
theorem cmpList_ord {α : Type} {c : α → α → Int} (h : Ord3 c) : Ord3 (cmpList c) where
 zero := by
  intro x
  induction x with
  | nil => intro y; cases y <;> simp [cmpList]
  | cons a l ih =>
   intro y
   cases y with
   | nil => simp [cmpList]
   | cons b m => rw [cmpList, lexI_zero, h.zero, ih, List.cons.injEq]
 anti := by
  intro x
  induction x with
  | nil => intro y; cases y <;> simp [cmpList]
  | cons a l ih =>
   intro y
   cases y with
   | nil => simp [cmpList]
   | cons b m => rw [cmpList, cmpList]; exact h.lex_anti fun _ => ih m
 trans := by
  intro x
  induction x with
  | nil => intro y z; cases y <;> cases z <;> simp [cmpList]
  | cons a l ih =>
   intro y z
   cases y with
   | nil => simp [cmpList]
   | cons b m =>
    cases z with
    | nil => simp [cmpList]
    | cons e n => rw [cmpList, cmpList, cmpList]; exact h.lex_trans fun _ _ => ih m n
noncomputable def B.cmp (x y : B) : Int := lexI (cInt x.var y.var) (x.to.cmp y.to)
theorem B.cmp_ord : Ord3 B.cmp where
 zero x y := by
  rw [B.cmp, lexI_zero, cInt_ord.zero, T.cmp_zero]
  cases x; cases y; simp
 anti x y := cInt_ord.lex_anti fun _ => T.cmp_anti _ _
 trans x y z := cInt_ord.lex_trans fun _ _ => T.cmp_trans _ _ _
end Go.Vx
namespace Go.Vx
open Go.Proofs Classical
section
variable {α : Type} {c : α → α → Int}
def Asc3 (c : α → α → Int) (l : List α) : Prop := l.Pairwise fun a b => c a b < 0
theorem Ord3.irrefl (h : Ord3 c) (x : α) : ¬ c x x < 0 := by have := (h.zero x x).2 rfl; omega
theorem Asc3.nodup (h : Ord3 c) {l : List α} (hl : Asc3 c l) : l.Nodup := hl.imp fun {a b} k e => by subst e; exact h.irrefl _ k
theorem Asc3.uniq (h : Ord3 c) {l m : List α} (hl : Asc3 c l) (hm : Asc3 c m) (e : ∀ x, x ∈ l ↔ x ∈ m) : l = m := by
 have hp : l.Perm m := (List.perm_ext_iff_of_nodup (hl.nodup h) (hm.nodup h)).2 e
 refine List.Perm.eq_of_pairwise (le := fun a b => c a b < 0) (fun a b _ _ h1 h2 => ?_) hl hm hp
 have := (h.anti a b).1 h1
 omega
end
end Go.Vx
namespace Go.Vx
open Go.Proofs Classical
noncomputable abbrev cmpB : List B → List B → Int := cmpList B.cmp
theorem cmpB_ord : Ord3 cmpB := cmpList_ord B.cmp_ord
section
variable {μ : Mem}
end
end Go.Vx
namespace Go.Vx
open Go.Proofs Classical
structure Ds where
 bs : List Bd
def Ds.d (x : Ds) : D := .sl 5 (x.bs.map Bd.d)
theorem Ds.d_eq (x : Ds) : x.d = .sl 5 (x.bs.map Bd.d) := rfl
theorem Ds.d_n (x : Ds) : x.d.n = 1 := rfl
abbrev Ds.P := Option Addr × Nat
def Ds.cs (x : Ds) (p : Ds.P) : List Value := [.slice p.1 x.bs.length p.2]
section
variable {μ : Mem}
theorem Ds.invV {x : Ds} {v : Value} (h : RepV μ x.d v) : ∃ p : Ds.P, v = .slice p.1 x.bs.length p.2 := by
 have w_ := Rep.sl (xs := x.bs.map Bd.d) h
 obtain ⟨b, c, rfl, _⟩ := w_
 exact ⟨(b, c), by rw [List.length_map]⟩
theorem Ds.inv {x : Ds} {v : Value} (h : RepV μ x.d v) : ∃ p : Ds.P, v = .slice p.1 x.bs.length p.2 ∧ Sl μ 5 p.1 x.bs.length (x.bs.map Bd.d) := by
 have w_ := Rep.sl (xs := x.bs.map Bd.d) h
 obtain ⟨b, c, rfl, hs⟩ := w_
 rw [List.length_map] at hs
 exact ⟨(b, c), by rw [List.length_map], hs⟩
theorem Ds.elem {l : List Ds} {base : Option Addr} {n : Nat} (h : Sl μ 1 base n (l.map Ds.d)) {i : Nat} {x : Ds} (hx : l[i]? = some x) : ∃ ad, ∃ p : Ds.P, ElemAt μ base n 1 i ad (x.cs p) ∧ RepV μ x.d (.slice p.1 x.bs.length p.2) := by
 have w_ := h.get i x.d (by simp [hx])
 obtain ⟨ad, cs, h1, h2⟩ := w_
 have h3 : Rep μ (.sl 5 (x.bs.map Bd.d)) cs := h2
 have hl := Rep.len _ _ h3
 match cs, hl with
 | [v], _ =>
  have w_ := Ds.invV (x := x) h3
  obtain ⟨p, rfl⟩ := w_
  exact ⟨ad, p, h1, h3⟩
end
end Go.Vx
namespace Go.Vx
open Go.Proofs Classical
def dsOf (x : List B) : Ds := ⟨x.map B.bd⟩
def AllOk (l : List Ds) : Prop := ∀ x ∈ l, substOk x.bs
theorem AllOk.lift {l : List Ds} (h : AllOk l) : ∃ L : List (List B), l = L.map dsOf ∧ ∀ x ∈ L, Subst x := by
 induction l with
 | nil => exact ⟨[], rfl, by simp⟩
 | cons a l ih =>
  have w_ := ih fun x hx => h x (by simp [hx])
  obtain ⟨L, rfl, hL⟩ := w_
  have w_ := (h a (by simp)).subst
  obtain ⟨bs, e, hb⟩ := w_
  refine ⟨bs :: L, ?_, ?_⟩
  ·cases a; simp only at e; subst e; rfl
  ·intro x hx
   rcases List.mem_cons.1 hx with rfl | hx
   ·exact hb
   ·exact hL x hx
end Go.Vx
namespace Go.Vx
open Go.Proofs Classical
noncomputable def T.ap (s : Int → T) : T → T
 | .nil => .nil
 | .var n => s n
 | .sym x => .sym x
 | .num n => .num n
 | .pair a b => .pair (a.ap s) (b.ap s)
def T.occ (n : Int) : T → Prop
 | .var m => m = n
 | .pair a b => a.occ n ∨ b.occ n
 | _ => False
theorem T.ap_congr {s t : Int → T} : ∀ {x : T}, (∀ n, x.occ n → s n = t n) → x.ap s = x.ap t
 | .nil, _ => rfl
 | .var n, h => h n rfl
 | .sym _, _ => rfl
 | .num _, _ => rfl
 | .pair a b, h => by rw [T.ap, T.ap, T.ap_congr fun n k => h n (.inl k), T.ap_congr fun n k => h n (.inr k)]
theorem T.ap_var : ∀ x : T, x.ap T.var = x
 | .nil => rfl
 | .var _ => rfl
 | .sym _ => rfl
 | .num _ => rfl
 | .pair a b => by rw [T.ap, T.ap_var a, T.ap_var b]
theorem T.ap_ap (s t : Int → T) : ∀ x : T, (x.ap s).ap t = x.ap fun n => (s n).ap t
 | .nil => rfl
 | .var _ => rfl
 | .sym _ => rfl
 | .num _ => rfl
 | .pair a b => by rw [T.ap, T.ap, T.ap, T.ap_ap s t a, T.ap_ap s t b]
theorem T.ap_fix {s : Int → T} : ∀ {x : T}, x.ap s = x → ∀ n, x.occ n → s n = .var n
 | .var m, h, n, k => by
  have k : m = n := k
  subst k; exact h
 | .pair a b, h, n, k => by
  rw [T.ap, T.pair.injEq] at h
  rcases k with k | k
  ·exact T.ap_fix h.1 n k
  ·exact T.ap_fix h.2 n k
 | .nil, _, n, k => k.elim
 | .sym _, _, n, k => k.elim
 | .num _, _, n, k => k.elim
def SolvesE (s : Int → T) (E : List (T × T)) : Prop := ∀ e ∈ E, e.1.ap s = e.2.ap s
structure Solved (s : Int → T) (E : List (T × T)) : Prop where
 sol : SolvesE s E
 gen : ∀ t : Int → T, SolvesE t E → ∀ n, (s n).ap t = t n
 least : ∀ n m, s n = .var m → m ≤ n
theorem Solved.idem {s : Int → T} {E : List (T × T)} (h : Solved s E) (n : Int) : (s n).ap s = s n := h.gen s h.sol n
theorem Solved.self {s : Int → T} {E : List (T × T)} (h : Solved s E) {n m : Int} (k : (s n).occ m) : s m = .var m := T.ap_fix (h.idem n) m k
theorem Solved.uniq {s t : Int → T} {E : List (T × T)} (hs : Solved s E) (ht : Solved t E) : s = t := funext fun n => by
 have key : ∀ u, (s n).occ u → t u = .var u := fun u hu => by
  have h1 := hs.self hu
  have h2 := ht.gen s hs.sol u
  rw [h1] at h2
  cases e : t u with
  | var w =>
   rw [e] at h2
   have h3 : s w = .var u := h2
   have h4 := ht.least u w e
   have h5 := hs.least w u h3
   rw [show w = u by omega]
  | _ => rw [e] at h2; cases h2
 have h1 := hs.gen t ht.sol n
 rw [← h1]
 refine ((T.ap_congr (t := T.var) key).trans (T.ap_var _)).symm
theorem Solved.nil : Solved T.var [] := ⟨fun e h => by simp at h, fun t _ n => rfl, fun n m h => by cases h; exact Int.le_refl _⟩
noncomputable def T.one (v : Int) (x : T) (n : Int) : T := if n = v then x else .var n
theorem T.one_fix {v : Int} {x : T} : ∀ {y : T}, ¬ y.occ v → y.ap (T.one v x) = y := fun {y} h => by
 refine (T.ap_congr (t := T.var) fun n k => ?_).trans (T.ap_var _)
 rw [T.one, if_neg fun e => by subst e; exact h k]
theorem Solved.bind {s : Int → T} {E : List (T × T)} (h : Solved s E) {a b : T} {v : Int} {x : T} (ha : a.ap s = .var v) (hb : b.ap s = x) (ho : ¬ x.occ v) (hl : ∀ m, x = .var m → m < v) : Solved (fun n => (s n).ap (T.one v x)) ((a, b) :: E) := by
 have hx : ∀ y : T, y.ap (fun n => (s n).ap (T.one v x)) = (y.ap s).ap (T.one v x) := fun y => (T.ap_ap _ _ y).symm
 refine ⟨fun e he => ?_, fun t ht n => ?_, fun n m hm => ?_⟩
 ·rcases List.mem_cons.1 he with rfl | he
  ·rw [hx, hx, ha, hb, T.one_fix ho]
   show T.one v x v = x
   rw [T.one, if_pos rfl]
  ·rw [hx, hx, h.sol e he]
 ·have hE : SolvesE t E := fun e he => ht e (List.mem_cons_of_mem _ he)
  have hg := h.gen t hE
  have hap : ∀ y : T, (y.ap s).ap t = y.ap t := fun y => by rw [T.ap_ap]; exact T.ap_congr fun n _ => hg n
  have h1 : t v = x.ap t := by
   have h2 := ht (a, b) (by simp)
   rw [← hap a, ← hap b, ha, hb] at h2
   exact h2
  rw [T.ap_ap, ← hg n]
  refine T.ap_congr fun m _ => ?_
  rw [T.one]
  split
  ·rename_i e; rw [e]; exact h1.symm
  ·rfl
 ·cases e : s n with
  | var w =>
   rw [e] at hm
   have hm : T.one v x w = .var m := hm
   have h1 := h.least n w e
   rw [T.one] at hm
   split at hm
   ·have := hl m hm; omega
   ·cases hm; omega
  | _ => rw [e] at hm; cases hm
theorem T.size_occ {s : Int → T} {v : Int} : ∀ {x : T}, x.occ v → (s v).size ≤ (x.ap s).size
 | .var m, h => by
  have h : m = v := h
  subst h; exact Nat.le_refl _
 | .pair a b, h => by
  rw [T.ap]
  rcases h with h | h
  ·have := T.size_occ (s := s) h; simp only [T.size]; omega
  ·have := T.size_occ (s := s) h; simp only [T.size]; omega
 | .nil, h => h.elim
 | .sym _, h => h.elim
 | .num _, h => h.elim
theorem T.size_pos1 (x : T) : 1 ≤ x.size := by cases x <;> simp [T.size] <;> omega
theorem T.size_ap (s : Int → T) : ∀ x : T, x.size ≤ (x.ap s).size
 | .nil => Nat.le_refl _
 | .var n => by
  rw [T.ap]
  have := T.size_pos1 (s n)
  simp only [T.size]; omega
 | .sym _ => Nat.le_refl _
 | .num _ => Nat.le_refl _
 | .pair a b => by
  have h1 := T.size_ap s a
  have h2 := T.size_ap s b
  rw [T.ap]
  simp only [T.size]; omega
theorem Solved.stays {s t : Int → T} {E F : List (T × T)} (hs : Solved s E) (ht : Solved t F) (h : ∀ e ∈ E, e ∈ F) {n : Int} (k : s n ≠ .var n) : t n ≠ .var n := fun e => by
 have hE : SolvesE t E := fun e he => ht.sol e (h e he)
 have h1 := hs.gen t hE n
 rw [e] at h1
 cases e2 : s n with
 | var w =>
  rw [e2] at h1
  have h3 : t w = .var n := h1
  have h4 := hs.least n w e2
  have h5 := ht.least w n h3
  exact k (by rw [e2, show w = n by omega])
 | _ => rw [e2] at h1; cases h1
theorem Solved.same {s : Int → T} {E F : List (T × T)} (h : Solved s E) (k : ∀ t, SolvesE t E ↔ SolvesE t F) : Solved s F := ⟨(k s).1 h.sol, fun t ht => h.gen t ((k t).2 ht), h.least⟩
theorem Solved.walk {s : Int → T} {E : List (T × T)} (h : Solved s E) {a b a' b' : T} (ha : a.ap s = a'.ap s) (hb : b.ap s = b'.ap s) (t : Int → T) : SolvesE t ((a, b) :: E) ↔ SolvesE t ((a', b') :: E) := by
 have key : SolvesE t E → ∀ y : T, (y.ap s).ap t = y.ap t := fun hE y => by rw [T.ap_ap]; exact T.ap_congr fun n _ => h.gen t hE n
 constructor
 ·intro k e he
  have hE : SolvesE t E := fun e he => k e (List.mem_cons_of_mem _ he)
  rcases List.mem_cons.1 he with rfl | he
  ·show a'.ap t = b'.ap t
   rw [← key hE a', ← key hE b', ← ha, ← hb, key hE, key hE]
   exact k (a, b) (by simp)
  ·exact hE e he
 ·intro k e he
  have hE : SolvesE t E := fun e he => k e (List.mem_cons_of_mem _ he)
  rcases List.mem_cons.1 he with rfl | he
  ·show a.ap t = b.ap t
   rw [← key hE a, ← key hE b, ha, hb, key hE, key hE]
   exact k (a', b') (by simp)
  ·exact hE e he
end Go.Vx
namespace Go.Vx
open Go.Proofs Classical
theorem filter_le {α : Type} {p q : α → Bool} : ∀ {l : List α}, (∀ n ∈ l, p n = true → q n = true) → (l.filter p).length ≤ (l.filter q).length
 | [], _ => Nat.le_refl _
 | a :: l, h => by
  have ih := filter_le (l := l) fun n hn => h n (List.mem_cons_of_mem _ hn)
  have ha := h a (by simp)
  cases e : p a with
  | true => rw [List.filter_cons_of_pos e, List.filter_cons_of_pos (ha e), List.length_cons, List.length_cons]; omega
  | false =>
   rw [List.filter_cons_of_neg (by simp [e])]
   cases e2 : q a with
   | true => rw [List.filter_cons_of_pos e2, List.length_cons]; omega
   | false => rw [List.filter_cons_of_neg (by simp [e2])]; exact ih
theorem filter_lt {α : Type} {p q : α → Bool} : ∀ {l : List α}, (∀ n ∈ l, p n = true → q n = true) → ∀ v ∈ l, p v = false → q v = true → (l.filter p).length < (l.filter q).length
 | [], _, v, hv, _, _ => by simp at hv
 | a :: l, h, v, hv, h1, h2 => by
  have hle := filter_le (l := l) fun n hn => h n (List.mem_cons_of_mem _ hn)
  rcases List.mem_cons.1 hv with rfl | hv
  ·rw [List.filter_cons_of_neg (by simp [h1]), List.filter_cons_of_pos h2, List.length_cons]; omega
  ·have ih := filter_lt (l := l) (fun n hn => h n (List.mem_cons_of_mem _ hn)) v hv h1 h2
   have ha := h a (by simp)
   cases e : p a with
   | true => rw [List.filter_cons_of_pos e, List.filter_cons_of_pos (ha e), List.length_cons, List.length_cons]; omega
   | false =>
    rw [List.filter_cons_of_neg (by simp [e])]
    cases e2 : q a with
    | true => rw [List.filter_cons_of_pos e2, List.length_cons]; omega
    | false => rw [List.filter_cons_of_neg (by simp [e2])]; exact ih
noncomputable def freeN (N : List Int) (s : Int → T) : Nat := (N.filter fun n => decide (s n = .var n)).length
theorem freeN_lt {s t : Int → T} {E F : List (T × T)} (hs : Solved s E) (ht : Solved t F) (h : ∀ e ∈ E, e ∈ F) {N : List Int} {v : Int} (hv : v ∈ N) (h1 : s v = .var v) (h2 : t v ≠ .var v) : freeN N t < freeN N s :=
 filter_lt (fun n _ k => by
  simp only [decide_eq_true_eq] at k ⊢
  exact Classical.byContradiction fun g => hs.stays ht h g k) v hv (decide_eq_false h2) (decide_eq_true h1)
noncomputable def asF (bs : List B) (n : Int) : T := (sub bs n).getD (.var n)
theorem subst_ap (f : Int → Option T) : ∀ x : T, x.subst f = x.ap fun n => (f n).getD (.var n)
 | .nil => rfl
 | .var _ => rfl
 | .sym _ => rfl
 | .num _ => rfl
 | .pair a b => by rw [T.subst, T.ap, subst_ap f a, subst_ap f b]
theorem subst_asF (bs : List B) (x : T) : x.subst (sub bs) = x.ap (asF bs) := subst_ap _ x
theorem sub_mapTo (g : T → T) : ∀ (bs : List B) (n : Int), sub (bs.map fun b => ⟨b.var, g b.to⟩) n = (sub bs n).map g
 | [], n => rfl
 | b :: r, n => by
  rw [List.map_cons, sub, sub, sub_mapTo g r]
  split <;> rfl
theorem asF_bind {bs : List B} {v : Int} {x : T} {k : Nat} (hv : sub bs v = none) : asF (insAt (bs.map fun b => ⟨b.var, b.to.ap (T.one v x)⟩) ⟨v, x⟩ k) = fun n => (asF bs n).ap (T.one v x) := funext fun n => by
 have e1 : sub (bs.map fun b => (⟨b.var, b.to.ap (T.one v x)⟩ : B)) n = (sub bs n).map fun y => y.ap (T.one v x) := sub_mapTo (fun y => y.ap (T.one v x)) bs n
 have e2 : sub ((bs.map fun b => (⟨b.var, b.to.ap (T.one v x)⟩ : B)).take k) n = none ∨ v ≠ n := by
  by_cases e : v = n
  ·left
   subst e
   have h3 : sub (bs.map fun b => (⟨b.var, b.to.ap (T.one v x)⟩ : B)) v = none := by rw [e1, hv]; rfl
   rw [← List.take_append_drop k (bs.map _), sub_append] at h3
   cases h4 : sub ((bs.map fun b => (⟨b.var, b.to.ap (T.one v x)⟩ : B)).take k) v with
   | none => rfl
   | some y => rw [h4] at h3; cases h3
  ·exact .inr e
 have e3 : sub (insAt (bs.map fun b => (⟨b.var, b.to.ap (T.one v x)⟩ : B)) ⟨v, x⟩ k) n = if v = n then some x else (sub bs n).map fun y => y.ap (T.one v x) := by
  rw [insAt, sub_append, sub_append]
  by_cases e : v = n
  ·rw [if_pos e, e2.resolve_right (fun h => h e)]
   simp [sub, e]
  ·have h5 : sub [(⟨v, x⟩ : B)] n = none := by simp [sub, e]
   rw [if_neg e, h5, Option.none_or, ← sub_append, List.take_append_drop, e1]
 rw [asF, e3, asF]
 by_cases e : v = n
 ·rw [if_pos e, ← e, hv]
  show x = T.one v x v
  rw [T.one, if_pos rfl]
 ·rw [if_neg e]
  cases sub bs n with
  | none =>
   show T.var n = T.one v x n
   rw [T.one, if_neg fun h => e h.symm]
  | some y => rfl
end Go.Vx
namespace Go.Vx
open Go.Proofs Classical
theorem sub_in {bs : List B} {n : Int} {x : T} (h : sub bs n = some x) : (⟨n, x⟩ : B) ∈ bs := by
 induction bs with
 | nil => cases h
 | cons b r ih =>
  rw [sub] at h
  split at h
  ·rename_i e
   cases h
   rw [← e]
   exact List.mem_cons_self ..
  ·exact List.mem_cons_of_mem _ (ih h)
theorem Srt.pw {bs : List B} (h : Srt bs) : bs.Pairwise fun a b => a.var < b.var := by
 rw [List.pairwise_iff_getElem]
 intro i j hi hj hij
 exact h i j _ _ hij (by simp) (by simp)
theorem sub_of_mem {bs : List B} (h : bs.Pairwise fun a b => a.var < b.var) {b : B} (hb : b ∈ bs) : sub bs b.var = some b.to := by
 induction bs with
 | nil => simp at hb
 | cons a r ih =>
  have w_ := List.pairwise_cons.1 h
  obtain ⟨h1, h2⟩ := w_
  rw [sub]
  rcases List.mem_cons.1 hb with rfl | hb
  ·rw [if_pos rfl]
  ·have := h1 b hb
   rw [if_neg (by omega)]
   exact ih h2 hb
def Proper (bs : List B) : Prop := ∀ b ∈ bs, b.to ≠ .var b.var
theorem asF_inj {bs bt : List B} (hs : Srt bs) (ht : Srt bt) (h1 : Proper bs) (h2 : Proper bt) (e : asF bs = asF bt) : bs = bt := by
 have half : ∀ {bs bt : List B}, Srt bs → Proper bs → asF bs = asF bt → ∀ b ∈ bs, b ∈ bt := fun {bs bt} hs h1 e b hb => by
  have k1 : asF bs b.var = b.to := by rw [asF, sub_of_mem hs.pw hb]; rfl
  rw [e, asF] at k1
  cases k2 : sub bt b.var with
  | none => rw [k2] at k1; exact absurd k1.symm (h1 b hb)
  | some x =>
   rw [k2] at k1
   have k1 : x = b.to := k1
   subst k1
   exact sub_in k2
 have hp : bs.Perm bt := (List.perm_ext_iff_of_nodup (hs.pw.imp fun h e => by subst e; omega) (ht.pw.imp fun h e => by subst e; omega)).2 fun b => ⟨half hs h1 e b, half ht h2 e.symm b⟩
 refine List.Perm.eq_of_pairwise (le := fun a b : B => a.var < b.var) (fun a b _ _ h3 h4 => by omega) hs.pw ht.pw hp
def FitsL (bs : List B) : Prop := (∀ b ∈ bs, b.to.size ≤ 5000) ∧ bs.length ≤ 400
structure SolL (bs : List B) (E : List (T × T)) : Prop where
 srt : Srt bs
 proper : Proper bs
 sol : Solved (asF bs) E
theorem SolL.uniq {bs bt : List B} {E : List (T × T)} (h : SolL bs E) (k : SolL bt E) : bs = bt := asF_inj h.srt k.srt h.proper k.proper (h.sol.uniq k.sol)
theorem SolL.nil : SolL [] [] := ⟨fun i j b c _ h => by simp at h, fun b h => by simp at h, Solved.nil⟩
theorem asF_bound {bs : List B} (hs : Srt bs) (hp : Proper bs) {n : Int} : asF bs n ≠ .var n ↔ ∃ b ∈ bs, b.var = n := by
 constructor
 ·intro h
  cases k : sub bs n with
  | none => rw [asF, k] at h; exact absurd rfl h
  | some x => exact ⟨_, sub_in k, rfl⟩
 ·rintro ⟨b, hb, rfl⟩
  rw [asF, sub_of_mem hs.pw hb]
  exact hp b hb
end Go.Vx
namespace Go.Vx
open Go.Proofs Classical
theorem srt_of_pw {bs : List B} (h : bs.Pairwise fun a b => a.var < b.var) : Srt bs := fun i j b c hij hb hc => by
 rw [List.pairwise_iff_getElem] at h
 have w_ := List.getElem?_eq_some_iff.1 hb
 obtain ⟨hi, rfl⟩ := w_
 have w_ := List.getElem?_eq_some_iff.1 hc
 obtain ⟨hj, rfl⟩ := w_
 exact h i j hi hj hij
noncomputable def bindL (bs : List B) (v : Int) (x : T) (k : Nat) : List B := insAt (bs.map fun b => ⟨b.var, b.to.ap (T.one v x)⟩) ⟨v, x⟩ k
theorem bindL_mem {bs : List B} {v : Int} {x : T} {k : Nat} {c : B} : c ∈ bindL bs v x k ↔ c = ⟨v, x⟩ ∨ ∃ b ∈ bs, c = ⟨b.var, b.to.ap (T.one v x)⟩ := by
 rw [bindL, insAt_mem, List.mem_map]
 constructor
 ·rintro (h | ⟨b, hb, rfl⟩)
  ·exact .inl h
  ·exact .inr ⟨b, hb, rfl⟩
 ·rintro (h | ⟨b, hb, rfl⟩)
  ·exact .inl h
  ·exact .inr ⟨b, hb, rfl⟩
structure PlaceOf (bs : List B) (v : Int) (k : Nat) : Prop where
 lo : ∀ b ∈ bs.take k, b.var < v
 hi : ∀ b ∈ bs.drop k, v < b.var
theorem bindL_srt {bs : List B} {v : Int} {x : T} {k : Nat} (hs : Srt bs) (hk : PlaceOf bs v k) : Srt (bindL bs v x k) := by
 refine srt_of_pw ?_
 have hp := hs.pw
 rw [← List.take_append_drop k bs, List.pairwise_append] at hp
 rw [bindL, insAt, ← List.map_take, ← List.map_drop, List.pairwise_append, List.pairwise_map]
 refine ⟨hp.1, ?_, fun a ha b hb => ?_⟩
 ·refine List.pairwise_cons.2 ⟨fun b hb => ?_, ?_⟩
  rotate_left
  ·show List.Pairwise _ (List.map _ _)
   rw [List.pairwise_map]; exact hp.2.1
  have w_ := List.mem_map.1 hb
  obtain ⟨c, hc, rfl⟩ := w_
  exact hk.hi c hc
 ·have w_ := List.mem_map.1 ha
  obtain ⟨c, hc, rfl⟩ := w_
  rcases List.mem_cons.1 hb with rfl | hb
  ·exact hk.lo c hc
  ·have w_ := List.mem_map.1 hb
   obtain ⟨d, hd, rfl⟩ := w_
   exact hp.2.2 c hc d hd
theorem SolL.bind {bs : List B} {E : List (T × T)} (h : SolL bs E) {a b : T} {v : Int} {x : T} {k : Nat} (ha : a.ap (asF bs) = .var v) (hb : b.ap (asF bs) = x) (ho : ¬ x.occ v) (hl : ∀ m, x = .var m → m < v) (hk : PlaceOf bs v k) (hv : asF bs v = .var v) :
  SolL (bindL bs v x k) ((a, b) :: E) := by
 have hn : sub bs v = none := by
  cases e : sub bs v with
  | none => rfl
  | some y =>
   have h1 := h.proper _ (sub_in e)
   rw [asF, e] at hv
   exact absurd hv h1
 have e : asF (bindL bs v x k) = fun n => (asF bs n).ap (T.one v x) := asF_bind hn
 have hS := h.sol.bind ha hb ho hl
 refine ⟨bindL_srt h.srt hk, fun c hc => ?_, by rw [e]; exact hS⟩
 rcases bindL_mem.1 hc with rfl | ⟨d, hd, rfl⟩
 ·intro k2
  have k2 : x = .var v := k2
  exact ho (by rw [k2]; rfl)
 ·have h1 := h.sol.stays hS (fun e he => List.mem_cons_of_mem _ he) ((asF_bound h.srt h.proper).2 ⟨d, hd, rfl⟩)
  have h2 : asF bs d.var = d.to := by rw [asF, sub_of_mem h.srt.pw hd]; rfl
  have h1 : (asF bs d.var).ap (T.one v x) ≠ .var d.var := h1
  rwa [h2] at h1
end Go.Vx
namespace Go.Vx
open Go.Proofs Classical
def Out (E : List (T × T)) : Option (List B) → Prop
 | some bs => SolL bs E
 | none => ∀ F bt, SolL bt F → SolvesE (asF bt) E → ¬ FitsL bt
theorem Out.none_mono {E E' : List (T × T)} (h : Out E none) (k : ∀ t, SolvesE t E' → SolvesE t E) : Out E' none := fun F bt hb hE => h F bt hb (k _ hE)
theorem Out.same {E E' : List (T × T)} {o : Option (List B)} (h : Out E o) (k : ∀ t, SolvesE t E ↔ SolvesE t E') : Out E' o := by
 cases o with
 | none => exact Out.none_mono h fun t => (k t).2
 | some bs => exact ⟨h.srt, h.proper, h.sol.same k⟩
end Go.Vx
namespace Go.Vx
open Go.Proofs Classical
theorem same_of_free {s t : Int → T} {E F : List (T × T)} (hs : Solved s E) (ht : Solved t F) (h : ∀ e ∈ E, e ∈ F) {N : List Int} (hN : ∀ n, t n ≠ .var n → n ∈ N) (e : freeN N s ≤ freeN N t) : t = s := by
 have h1 : ∀ n, s n = .var n → t n = .var n := fun n k => Classical.byContradiction fun g => by
  have := freeN_lt hs ht h (hN n g) k g
  omega
 have hE : SolvesE t E := fun x hx => ht.sol x (h x hx)
 funext n
 rw [← hs.gen t hE n]
 exact (T.ap_congr (t := T.var) fun m k => h1 m (hs.self k)).trans (T.ap_var _)
def T.inN (N : List Int) (x : T) : Prop := ∀ n, x.occ n → n ∈ N
def InN (N : List Int) (bs : List B) : Prop := ∀ b ∈ bs, b.var ∈ N ∧ b.to.inN N
theorem T.inN_pair {N : List Int} {a b : T} : (T.pair a b).inN N ↔ a.inN N ∧ b.inN N := ⟨fun h => ⟨fun n k => h n (.inl k), fun n k => h n (.inr k)⟩, fun h n k => k.elim (h.1 n) (h.2 n)⟩
theorem T.occ_ap {s : Int → T} {n : Int} : ∀ {x : T}, (x.ap s).occ n → ∃ m, x.occ m ∧ (s m).occ n
 | .var m, h => ⟨m, rfl, h⟩
 | .pair a b, h => by
  rcases h with h | h
  ·obtain ⟨m, h1, h2⟩ := T.occ_ap (x := a) h; exact ⟨m, .inl h1, h2⟩
  ·obtain ⟨m, h1, h2⟩ := T.occ_ap (x := b) h; exact ⟨m, .inr h1, h2⟩
 | .nil, h => h.elim
 | .sym _, h => h.elim
 | .num _, h => h.elim
theorem InN.asF {N : List Int} {bs : List B} (h : InN N bs) {n m : Int} (hn : n ∈ N) (k : (asF bs n).occ m) : m ∈ N := by
 rw [Go.Vx.asF] at k
 cases e : sub bs n with
 | none =>
  rw [e] at k
  have k : n = m := k
  rw [← k]; exact hn
 | some x =>
  rw [e] at k
  exact (h _ (sub_in e)).2 m k
theorem InN.ap {N : List Int} {bs : List B} (h : InN N bs) {x : T} (hx : x.inN N) : (x.ap (Go.Vx.asF bs)).inN N := fun n k => by
 have w_ := T.occ_ap k
 obtain ⟨m, h1, h2⟩ := w_
 exact h.asF (hx m h1) h2
theorem InN.bind {N : List Int} {bs : List B} (h : InN N bs) {v : Int} {x : T} {k : Nat} (hv : v ∈ N) (hx : x.inN N) : InN N (bindL bs v x k) := fun c hc => by
 rcases bindL_mem.1 hc with rfl | ⟨b, hb, rfl⟩
 ·exact ⟨hv, hx⟩
 ·refine ⟨(h b hb).1, fun n hn => ?_⟩
  have w_ := T.occ_ap hn
  obtain ⟨m, h1, h2⟩ := w_
  rw [T.one] at h2
  split at h2
  ·exact hx n h2
  ·have h2 : m = n := h2
   rw [← h2]; exact (h b hb).2 m h1
theorem InN.bound {N : List Int} {bs : List B} (h : InN N bs) (hs : Srt bs) (hp : Proper bs) (n : Int) (k : Go.Vx.asF bs n ≠ .var n) : n ∈ N := by
 have w_ := (asF_bound hs hp).1 k
 obtain ⟨b, hb, rfl⟩ := w_
 exact (h b hb).1
theorem SolL.step {bs bt : List B} {E F : List (T × T)} (h : SolL bs E) (k : SolL bt F) (hEF : ∀ e ∈ E, e ∈ F) {N : List Int} (hN : InN N bt) : freeN N (asF bt) < freeN N (asF bs) ∨ bt = bs := by
 by_cases e : freeN N (asF bs) ≤ freeN N (asF bt)
 ·right
  exact asF_inj k.srt h.srt k.proper h.proper (same_of_free h.sol k.sol hEF (hN.bound k.srt k.proper) e)
 ·left; omega
end Go.Vx
namespace Go.Vx
open Go.Proofs Classical
section
variable {μ : Mem}
theorem pairR_spec {a b : T} {va vb : Value} (ha : RepV μ a.tm.d va) (hb : RepV μ b.tm.d vb) : Spec Try.prog 123 [va, vb] μ fun v μ' => RepV μ' (T.pair a b).tm.d v := by
 have w_ := Tm.invV ha
 obtain ⟨p, rfl⟩ := w_
 have w_ := Tm.invV hb
 obtain ⟨q, rfl⟩ := w_
 refine Spec.mk Try.func123 (by kernel_rfl) ?_
 intro r1 r2 r3 r4
 refine rFz [3] fun μ' hle hno hrow => .inl ?_
 rw [T.tm, Tm.d_mk]
 exact ⟨_, rfl, RepS.int (RepS.int (RepS.str (RepS.last (Rows.sl hrow (.cons (ha.mono hle) (Tm.d_n _) (.cons (hb.mono hle) (Tm.d_n _) .nil)) (show 2 ≤ maxLen by decide)))))⟩
theorem mapVars_rel {k : FuncId} {caps : List Value} {f : Int → Option T} (J : Mem → Mem → Prop) (hJ : ∀ {μ' μ'' h' : Mem}, μ'.Le μ'' → J μ' h' → J μ'' h') : ∀ (x : T) {μ h : Mem} {v : Value},
  (∀ μ' h', μ.Le μ' → J μ' h' → ∀ n ∈ x.vars, SpecH Try.prog k (.int .i64 n :: caps) μ' h' fun v μ'' h'' => optV (fun y tv => RepV μ'' y.tm.d tv) (f n) v ∧ J μ'' h'') → J μ h → RepV μ x.tm.d v →
  SpecH Try.prog 82 [v, .func (.func k) #[] caps.toArray] μ h fun v μ' h' => RepV μ' (x.subst f).tm.d v ∧ J μ' h' := by
 intro x
 induction x with
 | var n =>
  intro μ h v hk hj hv
  have w_ := Tm.invV hv
  obtain ⟨p, rfl⟩ := w_
  refine SpecH.mk [] Try.func82 (by kernel_rfl) ?_
  intro r1 r2
  refine ifd (fun _ => ?_) (fun h => absurd rfl h)
  refine cOw (hk μ h (Mem.Le.refl μ) hj n (by simp [T.vars])) fun v' μ' h' hle hap hR => ?_
  obtain ⟨hR, hj'⟩ := hR
  simp only [T.subst]
  cases hs : f n with
  | some y =>
   rw [hs] at hR
   obtain ⟨tv, rfl, htv⟩ := hR
   have w_ := Tm.invV htv
   obtain ⟨q, rfl⟩ := w_
   intro r3
   refine iIn (fun _ => ?_) (fun h => nomatch h)
   refine cPl (copyTerm_spec y htv) fun v2 μ2 hle2 hR2 => ?_
   have w_ := Tm.invV hR2.rep
   obtain ⟨q2, rfl⟩ := w_
   exact rPl ⟨hR2.rep, hJ hle2 hj'⟩
  | none =>
   rw [hs] at hR
   obtain rfl := hR
   intro r3
   refine iIn (fun h => nomatch h) (fun _ => ?_)
   exact rPl ⟨hv.mono hle, hj'⟩
 | pair a b iha ihb =>
  intro μ h v hk hj hv
  have w_ := Tm.inv hv
  obtain ⟨base', cap', rfl, hsa⟩ := w_
  have w_ := T.parts hsa
  obtain ⟨ad, ad', p, p', h1, h2, hra, hrb⟩ := w_
  refine SpecH.mk [] Try.func82 (by kernel_rfl) ?_
  intro r1 r2
  refine ifd (fun h => absurd h (by simp)) (fun _ => ?_)
  refine ifd (fun _ => ?_) (fun h => absurd rfl h)
  refine eIn h1 ?_
  refine eIn h2 ?_
  refine cOw (iha (fun μ' h' g1 g2 n hn => hk μ' h' g1 g2 n (by simp [T.vars, hn])) hj hra) fun v1 μ1 h1' hle1 hap1 hR1 => ?_
  obtain ⟨hR1, hj1⟩ := hR1
  refine cOw (ihb (fun μ' h' g1 g2 n hn => hk μ' h' (hle1.trans g1) g2 n (by simp [T.vars, hn])) hj1 (hrb.mono hle1)) fun v2 μ2 h2' hle2 hap2 hR2 => ?_
  obtain ⟨hR2, hj2⟩ := hR2
  refine cPl (pairR_spec (hR1.mono hle2) hR2) fun v3 μ3 hle3 hR3 => ?_
  have w_ := Tm.invV hR3
  obtain ⟨q, rfl⟩ := w_
  exact rPl ⟨hR3, hJ hle3 hj2⟩
 | _ =>
  intro μ h v hk hj hv
  have w_ := Tm.invV hv
  obtain ⟨p, rfl⟩ := w_
  refine SpecH.mk [] Try.func82 (by kernel_rfl) ?_
  intro r1 r2
  refine ifd (fun h => absurd h (by simp [T.tm, Tm.kind])) (fun _ => ?_)
  refine ifd (fun h => absurd h (by simp [T.tm, Tm.kind])) (fun _ => ?_)
  exact rPl ⟨hv, hj⟩
end
end Go.Vx
namespace Go.Vx
open Go.Proofs Classical
structure Cl where
 rep : Int → Int
 shp : Int → Option T
structure Cl.Ok (c : Cl) (rank : Int → Nat) : Prop where
 idem : ∀ v, c.rep (c.rep v) = c.rep v
 le : ∀ v, c.rep v ≤ v
 root : ∀ x t, c.shp x = some t → c.rep x = x
 nv : ∀ x t, c.shp x = some t → ∀ m, t ≠ .var m
 acy : ∀ x t, c.shp x = some t → ∀ v, t.occ v → rank (c.rep v) < rank x
def Cl.IsVal (c : Cl) (val : Int → T) : Prop := ∀ v, val v = match c.shp (c.rep v) with | some t => t.ap val | none => .var (c.rep v)
noncomputable def Cl.unroll (c : Cl) : Nat → Int → T
 | 0, v => .var (c.rep v)
 | n + 1, v => match c.shp (c.rep v) with | some t => t.ap (c.unroll n) | none => .var (c.rep v)
section
variable {c : Cl} {rank : Int → Nat}
theorem Cl.Ok.stable (h : c.Ok rank) : ∀ (n m : Nat) (v : Int), rank (c.rep v) < n → rank (c.rep v) < m → c.unroll n v = c.unroll m v
 | 0, _, _, h1, _ => by omega
 | _, 0, _, _, h2 => by omega
 | n + 1, m + 1, v, h1, h2 => by
  rw [Cl.unroll, Cl.unroll]
  cases e : c.shp (c.rep v) with
  | none => rfl
  | some t =>
   refine T.ap_congr fun u hu => h.stable n m u ?_ ?_
   ·have := h.acy _ _ e u hu; omega
   ·have := h.acy _ _ e u hu; omega
theorem Cl.Ok.has_val (h : c.Ok rank) : ∃ val, c.IsVal val := by
 refine ⟨fun v => c.unroll (rank (c.rep v) + 1) v, fun v => ?_⟩
 show c.unroll (rank (c.rep v) + 1) v = _
 rw [Cl.unroll]
 cases e : c.shp (c.rep v) with
 | none => rfl
 | some t => exact T.ap_congr fun u hu => h.stable _ _ u (h.acy _ _ e u hu) (Nat.lt_succ_self _)
variable {val : Int → T}
theorem Cl.IsVal.shaped (hv : c.IsVal val) {v : Int} {t : T} (e : c.shp (c.rep v) = some t) : val v = t.ap val := by have := hv v; rwa [e] at this
theorem Cl.IsVal.plain (hv : c.IsVal val) {v : Int} (e : c.shp (c.rep v) = none) : val v = .var (c.rep v) := by have := hv v; rwa [e] at this
theorem Cl.IsVal.rep (h : c.Ok rank) (hv : c.IsVal val) (v : Int) : val (c.rep v) = val v := by
 rw [hv v, hv (c.rep v), h.idem]
theorem nv_ap {t : T} (h : ∀ m, t ≠ .var m) (s : Int → T) : ∀ m, t.ap s ≠ .var m := fun m => by
 cases t with
 | var n => exact absurd rfl (h n)
 | _ => exact (fun k => nomatch k)
def Cl.Sol (c : Cl) (θ : Int → T) : Prop := (∀ v, θ (c.rep v) = θ v) ∧ ∀ x t, c.shp x = some t → θ x = t.ap θ
theorem Cl.IsVal.sol (h : c.Ok rank) (hv : c.IsVal val) : c.Sol val := ⟨hv.rep h, fun x t e => hv.shaped (by rw [h.root x t e]; exact e)⟩
theorem Cl.IsVal.gen (h : c.Ok rank) (hv : c.IsVal val) {θ : Int → T} (hθ : c.Sol θ) : ∀ (n : Nat) (v : Int), rank (c.rep v) < n → (val v).ap θ = θ v
 | 0, _, h1 => by omega
 | n + 1, v, h1 => by
  cases e : c.shp (c.rep v) with
  | none => rw [hv.plain e]; exact hθ.1 v
  | some t =>
   rw [hv.shaped e, T.ap_ap, T.ap_congr (t := θ) fun u hu => Cl.IsVal.gen h hv hθ n u (by have := h.acy _ _ e u hu; omega), ← hθ.2 _ _ e, hθ.1]
theorem Cl.IsVal.solved (h : c.Ok rank) (hv : c.IsVal val) {E : List (T × T)} (hE : ∀ θ, c.Sol θ ↔ SolvesE θ E) : Solved val E where
 sol := (hE _).1 (hv.sol h)
 gen t ht n := Cl.IsVal.gen h hv ((hE t).2 ht) _ n (Nat.lt_succ_self _)
 least n m e := by
  cases k : c.shp (c.rep n) with
  | none =>
   rw [hv.plain k] at e
   cases e
   exact h.le n
  | some t => rw [hv.shaped k] at e; exact absurd e (nv_ap (h.nv _ _ k) val m)
noncomputable def Cl.merge (c : Cl) (x y : Int) : Cl := ⟨fun v => if c.rep v = y then x else c.rep v, fun v => if v = x ∨ v = y then none else c.shp v⟩
theorem Cl.merge_ok (h : c.Ok rank) {x y : Int} (hx : c.rep x = x) (_hy : c.rep y = y) (hlt : x < y) : (c.merge x y).Ok fun v => if v = x then 0 else rank v + 1 where
 idem v := by
  simp only [Cl.merge]
  by_cases k : c.rep v = y
  ·rw [if_pos k, hx, if_neg (by omega)]
  ·rw [if_neg k, h.idem, if_neg k]
 le v := by
  have := h.le v
  simp only [Cl.merge]
  split
  ·omega
  ·exact this
 root z t e := by
  simp only [Cl.merge] at e ⊢
  split at e
  ·cases e
  ·rename_i k
   have := h.root z t e
   rw [this, if_neg (fun k2 => k (.inr k2))]
 nv z t e := by
  simp only [Cl.merge] at e
  split at e
  ·cases e
  ·exact h.nv z t e
 acy z t e v hv := by
  simp only [Cl.merge] at e
  split at e
  ·cases e
  ·rename_i k
   have := h.acy z t e v hv
   have hw : (c.merge x y).rep v = x ∨ (c.merge x y).rep v = c.rep v := by
    simp only [Cl.merge]
    split
    ·exact .inl rfl
    ·exact .inr rfl
   generalize (c.merge x y).rep v = w at hw
   rw [if_neg (show ¬ z = x from fun k2 => k (.inl k2))]
   split
   ·omega
   ·rcases hw with hw | hw
    ·contradiction
    ·rw [hw]; omega
theorem Cl.merge_sol {x y : Int} (hy : c.rep y = y) (hne : x ≠ y) (θ : Int → T) :
  (c.Sol θ ∧ θ x = θ y) ↔ (c.merge x y).Sol θ ∧ (∀ t, c.shp x = some t → θ x = t.ap θ) ∧ (∀ t, c.shp y = some t → θ x = t.ap θ) := by
 constructor
 ·rintro ⟨⟨h1, h2⟩, h3⟩
  refine ⟨⟨fun v => ?_, fun z t e => ?_⟩, fun t e => h2 x t e, fun t e => h3.trans (h2 y t e)⟩
  ·simp only [Cl.merge]
   split
   ·rename_i k; rw [h3, ← k]; exact h1 v
   ·exact h1 v
  ·simp only [Cl.merge] at e
   split at e
   ·cases e
   ·exact h2 z t e
 ·rintro ⟨⟨h1, h2⟩, h3, h4⟩
  have hxy : θ x = θ y := by
   have := h1 y
   simp only [Cl.merge] at this
   rwa [if_pos hy] at this
  refine ⟨⟨fun v => ?_, fun z t e => ?_⟩, hxy⟩
  ·have := h1 v
   simp only [Cl.merge] at this
   split at this
   ·rename_i k; rw [k, ← hxy]; exact this
   ·exact this
  ·by_cases k1 : z = x
   ·subst k1; exact h3 t e
   ·by_cases k2 : z = y
    ·subst k2; rw [← hxy]; exact h4 t e
    ·exact h2 z t (by simp only [Cl.merge]; rw [if_neg (fun k => k.elim k1 k2)]; exact e)
noncomputable def Cl.shape (c : Cl) (x : Int) (t : T) : Cl := ⟨c.rep, fun v => if v = x then some t else c.shp v⟩
theorem rank_bound (f : Int → Nat) : ∀ t : T, ∃ M, ∀ v, t.occ v → f v < M
 | .var n => ⟨f n + 1, fun v h => by have h : n = v := h; subst h; omega⟩
 | .pair a b => by
  have w_ := rank_bound f a
  obtain ⟨A, hA⟩ := w_
  have w_ := rank_bound f b
  obtain ⟨B, hB⟩ := w_
  exact ⟨A + B, fun v h => h.elim (fun h => by have := hA v h; omega) (fun h => by have := hB v h; omega)⟩
 | .nil => ⟨0, fun v h => h.elim⟩
 | .sym _ => ⟨0, fun v h => h.elim⟩
 | .num _ => ⟨0, fun v h => h.elim⟩
theorem T.occ_of_ap {s : Int → T} {x n : Int} : ∀ {t : T}, t.occ n → (s n).occ x → (t.ap s).occ x
 | .var m, h, k => by have h : m = n := h; subst h; exact k
 | .pair a b, h, k => h.elim (fun h => .inl (T.occ_of_ap h k)) (fun h => .inr (T.occ_of_ap h k))
 | .nil, h, _ => h.elim
 | .sym _, h, _ => h.elim
 | .num _, h, _ => h.elim
theorem Cl.shape_ok (h : c.Ok rank) (hv : c.IsVal val) {x : Int} {t : T} (hx : c.rep x = x) (hs : c.shp x = none) (ht : ∀ m, t ≠ .var m) (ho : ¬ (t.ap val).occ x) : ∃ rank', (c.shape x t).Ok rank' := by
 have w_ := rank_bound (fun v => rank (c.rep v)) t
 obtain ⟨M, hM⟩ := w_
 have vx : (val x).occ x := by rw [hv.plain (by rw [hx]; exact hs), hx]; rfl
 refine ⟨fun z => if (val z).occ x then rank z + M else rank z, h.idem, h.le, fun z u e => ?_, fun z u e => ?_, fun z u e v hu => ?_⟩
 ·simp only [Cl.shape] at e
  split at e
  ·rename_i k; subst k; exact hx
  ·exact h.root z u e
 ·simp only [Cl.shape] at e
  split at e
  ·cases e; exact ht
  ·exact h.nv z u e
 ·simp only [Cl.shape] at e
  show (if (val (c.rep v)).occ x then rank (c.rep v) + M else rank (c.rep v)) < (if (val z).occ x then rank z + M else rank z)
  have e2 : (val (c.rep v)).occ x ↔ (val v).occ x := by rw [hv.rep h]
  split at e
  ·rename_i k
   subst k
   cases e
   rw [if_neg (fun k => ho (T.occ_of_ap hu (e2.1 k))), if_pos vx]
   have := hM v hu
   omega
  ·have h1 := h.acy z u e v hu
   have h2 : val z = u.ap val := hv.shaped (by rw [h.root z u e]; exact e)
   by_cases k : (val v).occ x
   ·rw [if_pos (e2.2 k), if_pos (by rw [h2]; exact T.occ_of_ap hu k)]; omega
   ·rw [if_neg (fun k2 => k (e2.1 k2))]
    split <;> omega
theorem Cl.shape_sol {x : Int} {t : T} (hs : c.shp x = none) (θ : Int → T) : (c.shape x t).Sol θ ↔ c.Sol θ ∧ θ x = t.ap θ := by
 constructor
 ·rintro ⟨h1, h2⟩
  refine ⟨⟨h1, fun z u e => h2 z u ?_⟩, h2 x t (by simp [Cl.shape])⟩
  simp only [Cl.shape]
  rw [if_neg (fun k => by subst k; rw [hs] at e; cases e)]
  exact e
 ·rintro ⟨⟨h1, h2⟩, h3⟩
  refine ⟨h1, fun z u e => ?_⟩
  simp only [Cl.shape] at e
  split at e
  ·rename_i k; cases e; subst k; exact h3
  ·exact h2 z u e
theorem Cl.shape_never (h : c.Ok rank) (hv : c.IsVal val) {x : Int} {t : T} (_hx : c.rep x = x) (_hs : c.shp x = none) (ht : ∀ m, t ≠ .var m) (ho : (t.ap val).occ x) (θ : Int → T) : ¬ (c.Sol θ ∧ θ x = t.ap θ) := by
 rintro ⟨h1, h2⟩
 have hg : ∀ y : T, (y.ap val).ap θ = y.ap θ := fun y => by rw [T.ap_ap]; exact T.ap_congr fun n _ => Cl.IsVal.gen h hv h1 _ n (Nat.lt_succ_self _)
 rw [← hg t] at h2
 have hn := nv_ap ht val
 generalize t.ap val = y at *
 cases y with
 | var m => exact hn m rfl
 | pair p q =>
  have h3 : (θ x).size < ((T.pair p q).ap θ).size := by
   rw [T.ap]
   rcases ho with ho | ho
   ·have := T.size_occ (s := θ) ho; simp only [T.size]; omega
   ·have := T.size_occ (s := θ) ho; simp only [T.size]; omega
  rw [h2] at h3; omega
 | _ => exact ho.elim
def Cl.Closed (c : Cl) (x : Int) (S : Int → Prop) : Prop := ∀ r, S r → ∀ t, c.shp r = some t → ∀ u, t.occ u → c.rep u ≠ x ∧ (c.shp (c.rep u) ≠ none → S (c.rep u))
theorem Cl.Closed.not_occ (h : c.Ok rank) (hv : c.IsVal val) {x : Int} {S : Int → Prop} (hc : c.Closed x S) : ∀ (n : Nat) (u : Int), rank (c.rep u) < n → c.rep u ≠ x → (c.shp (c.rep u) ≠ none → S (c.rep u)) → ¬ (val u).occ x
 | 0, _, h1, _, _ => by omega
 | n + 1, u, h1, h2, h3 => by
  cases e : c.shp (c.rep u) with
  | none => rw [hv.plain e]; exact h2
  | some t =>
   rw [hv.shaped e]
   intro k
   have w_ := T.occ_ap k
   obtain ⟨m, hm, hk⟩ := w_
   have h4 := hc _ (h3 (by rw [e]; exact (fun k => nomatch k))) t e m hm
   exact Cl.Closed.not_occ h hv hc n m (by have := h.acy _ _ e m hm; omega) h4.1 h4.2 hk
end
def Cl.start : Cl := ⟨id, fun _ => none⟩
theorem Cl.start_ok : Cl.start.Ok fun _ => 0 := ⟨fun _ => rfl, fun _ => Int.le_refl _, fun _ _ h => (nomatch h), fun _ _ h => (nomatch h), fun _ _ h => (nomatch h)⟩
theorem Cl.start_sol (θ : Int → T) : Cl.start.Sol θ ↔ SolvesE θ [] := ⟨fun _ e h => by simp at h, fun _ => ⟨fun _ => rfl, fun _ _ h => (nomatch h)⟩⟩
end Go.Vx
namespace Go.Vx
open Go.Proofs Classical
theorem RowO.cut {h : Mem} {r cap : Nat} {ty : TypeId} {es : Nat} {xs : List Value} {cs : List Value} {k j : Nat} {x x' : Value} {vs : List Value} (h1 : xs.length ≤ cap) (h2 : xs.length ≤ maxLen) (h3 : ∀ x ∈ xs, (vcells x).length = es ∧ ∀ u ∈ vcells x, u.oneCell' = true) (h4 : cs.length = cap * es) (h5 : cs.take (xs.length * es) = xs.flatMap vcells)
  (hx : xs[k]? = some x) (hv : vcells x' = (vcells x).take j ++ vs ++ (vcells x).drop (j + vs.length)) (hj : j + vs.length ≤ es) (ho : ∀ u ∈ vs, u.oneCell' = true) :
  RowO (h.set r (.cells (List.toArray (cs.take (k * es + j) ++ vs ++ cs.drop (k * es + j + vs.length))) ty (0, 0))) r cap ty es (xs.set k x') := by
 have hk := (List.getElem?_eq_some_iff.1 hx).1
 have hxm := List.mem_of_getElem? hx
 have hxl := (h3 x hxm).1
 obtain ⟨A, B, rfl, hA⟩ : ∃ A B, xs = A ++ x :: B ∧ A.length = k := ⟨xs.take k, xs.drop (k + 1), by
  rw [← (List.getElem?_eq_some_iff.1 hx).2]
  rw [List.getElem_cons_drop, List.take_append_drop], by rw [List.length_take]; omega⟩
 subst hA
 have fA : (A.flatMap vcells).length = A.length * es := flat_len A fun y hy => (h3 y (by simp [hy])).1
 have fB : (B.flatMap vcells).length = B.length * es := flat_len B fun y hy => (h3 y (by simp [hy])).1
 obtain ⟨rest, hrest⟩ : ∃ rest, cs = A.flatMap vcells ++ vcells x ++ B.flatMap vcells ++ rest := ⟨cs.drop ((A ++ x :: B).length * es), by
  have h6 := List.take_append_drop ((A ++ x :: B).length * es) cs
  rw [h5] at h6
  refine h6.symm.trans ?_
  simp⟩
 have e1 : cs.take (A.length * es + j) = A.flatMap vcells ++ (vcells x).take j := by
  rw [hrest, List.append_assoc, List.append_assoc, ← fA, List.take_length_add_append, List.take_append_of_le_length (by omega)]
 have e2 : cs.drop (A.length * es + j + vs.length) = (vcells x).drop (j + vs.length) ++ B.flatMap vcells ++ rest := by
  rw [hrest, List.append_assoc, List.append_assoc, ← fA, Nat.add_assoc, List.drop_length_add_append, List.drop_append_of_le_length (by omega), List.append_assoc]
 have e3 : (A ++ x :: B).set A.length x' = A ++ x' :: B := by simp
 rw [e3]
 have hx'l : (vcells x').length = es := by
  rw [hv]; simp only [List.length_append, List.length_take, List.length_drop]; omega
 refine ⟨_, Mem.set_at _ _ _, by simpa using h1, by simpa using h2, fun y hy => ?_, ?_, ?_⟩
 ·rcases List.mem_append.1 hy with hy | hy
  ·exact h3 y (by simp [hy])
  rcases List.mem_cons.1 hy with rfl | hy
  ·refine ⟨hx'l, fun u hu => ?_⟩
   rw [hv] at hu
   simp only [List.mem_append] at hu
   rcases hu with (hu | hu) | hu
   ·exact (h3 x hxm).2 u (List.mem_of_mem_take hu)
   ·exact ho u hu
   ·exact (h3 x hxm).2 u (List.mem_of_mem_drop hu)
  ·exact h3 y (by simp [hy])
 ·have h4' := h4
  rw [hrest] at h4'
  rw [e1, e2]
  simp only [List.length_append, List.length_take, List.length_drop] at h4' ⊢
  omega
 ·rw [e1, e2]
  have : A.flatMap vcells ++ (vcells x).take j ++ vs ++ ((vcells x).drop (j + vs.length) ++ B.flatMap vcells ++ rest) = (A ++ x' :: B).flatMap vcells ++ rest := by
   simp [hv]
  rw [this]
  have hfl : ((A ++ x' :: B).flatMap vcells).length = (A ++ x' :: B).length * es := flat_len _ fun y hy => by
   rcases List.mem_append.1 hy with hy | hy
   ·exact (h3 y (by simp [hy])).1
   rcases List.mem_cons.1 hy with rfl | hy
   ·exact hx'l
   ·exact (h3 y (by simp [hy])).1
  rw [← hfl, List.take_left]
theorem sto_row {h : Mem} {ad : Addr} {vs : List Value} {K : Mem → Prop} {r cap : Nat} {ty : TypeId} {es : Nat} {xs : List Value} {k j : Nat} {x : Value} (x' : Value) (hr : RowO h r cap ty es xs) (hx : xs[k]? = some x) (ha : ad = ⟨r, k * es + j, none⟩) (hv : vcells x' = (vcells x).take j ++ vs ++ (vcells x).drop (j + vs.length)) (hj : j + vs.length ≤ es) (ho : ∀ u ∈ vs, u.oneCell' = true)
  (hK : ∀ o, RowO (h.set r o) r cap ty es (xs.set k x') → K (h.set r o)) : stoVC h ad vs K := by
 subst ha
 obtain ⟨cs, hc, h1, h2, h3, h4, h5⟩ := hr
 have hk := (List.getElem?_eq_some_iff.1 hx).1
 refine sIn cs ty hc rfl ?_ (hK _ (RowO.cut h1 h2 h3 h4 h5 hx hv hj ho))
 show k * es + j + vs.length ≤ cs.length
 rw [h4]
 have := Nat.mul_le_mul_right es (show k + 1 ≤ cap by omega)
 rw [Nat.succ_mul] at this
 omega
theorem RowO.cell {h : Mem} {r cap : Nat} {ty : TypeId} {es : Nat} {xs : List Value} {k j : Nat} {x u : Value} (hr : RowO h r cap ty es xs) (hx : xs[k]? = some x) (hu : (vcells x)[j]? = some u) : h.cell ⟨r, k * es + j, none⟩ = some u := by
 obtain ⟨cs, hc, h1, h2, h3, h4, h5⟩ := hr
 obtain ⟨A, B, rfl, hA⟩ : ∃ A B, xs = A ++ x :: B ∧ A.length = k := ⟨xs.take k, xs.drop (k + 1), by
  rw [← (List.getElem?_eq_some_iff.1 hx).2]
  rw [List.getElem_cons_drop, List.take_append_drop], by rw [List.length_take]; have := (List.getElem?_eq_some_iff.1 hx).1; omega⟩
 subst hA
 have fA : (A.flatMap vcells).length = A.length * es := flat_len A fun y hy => (h3 y (by simp [hy])).1
 have hj := (List.getElem?_eq_some_iff.1 hu).1
 obtain ⟨rest, hrest⟩ : ∃ rest, cs = A.flatMap vcells ++ (vcells x ++ rest) := ⟨B.flatMap vcells ++ cs.drop ((A ++ x :: B).length * es), by
  have h6 := List.take_append_drop ((A ++ x :: B).length * es) cs
  rw [h5] at h6
  refine h6.symm.trans ?_
  simp⟩
 have e : cs[A.length * es + j]? = some u := by
  rw [hrest, List.getElem?_append_right (by omega), fA, show A.length * es + j - A.length * es = j by omega, List.getElem?_append_left hj, hu]
 simp [Mem.cell, hc, e]
theorem RowO.own1 {h : Mem} {r cap : Nat} {ty : TypeId} {es : Nat} {xs : List Value} {k j : Nat} {x u : Value} {ad : Addr} (hr : RowO h r cap ty es xs) (hx : xs[k]? = some x) (hu : (vcells x)[j]? = some u) (ha : ad = ⟨r, k * es + j, none⟩) : ∀ i v, [u][i]? = some v → h.cell (ad.add i) = some v := fun i v hi => by
 match i, hi with
 | 0, hi =>
  cases hi
  rw [ha]
  have := hr.cell hx hu
  simpa [Addr.add_lit'] using this
theorem apartO {μ h : Mem} {r r' cap es : Nat} {ty : TypeId} {ys : List Value} (hb : RowO h r cap ty es ys) (hap : Apart μ h) (hor : r' = r ∨ (h r' = none ∧ μ r' = none)) : μ r' = none := by
 rcases hor with rfl | ⟨_, h2⟩
 ·obtain ⟨cs, h1, _⟩ := hb
  cases e : μ r' with
  | none => rfl
  | some o => have := hap r' (by simp [e]); rw [h1] at this; cases this
 ·exact h2
theorem Rows.of_at' {μ : Mem} {es : Nat} : ∀ {ds : List D} {xs : List Value}, ds.length = xs.length → (∀ (j : Nat) d v, ds[j]? = some d → xs[j]? = some v → RepV μ d v ∧ d.n = es) → Rows μ es ds xs
 | [], [], _, _ => .nil
 | [], _ :: _, h, _ => by simp at h
 | _ :: _, [], h, _ => by simp at h
 | d :: ds, v :: xs, h, k => by
  have := k 0 d v rfl rfl
  exact .cons this.1 this.2 (Rows.of_at' (by simpa using h) fun j d' v' h1 h2 => k (j + 1) d' v' (by simpa using h1) (by simpa using h2))
end Go.Vx
namespace Go.Vx
open Go.Proofs Classical
noncomputable def valL (val : Int → T) (l : List Int) : List B := l.filterMap fun v => if val v = .var v then none else some ⟨v, val v⟩
section
variable {val : Int → T} {l : List Int}
theorem mem_valL {b : B} : b ∈ valL val l ↔ b.var ∈ l ∧ b.to = val b.var ∧ val b.var ≠ .var b.var := by
 rw [valL, List.mem_filterMap]
 constructor
 ·rintro ⟨v, h1, h2⟩
  split at h2
  ·cases h2
  ·rename_i h3
   cases h2
   exact ⟨h1, rfl, h3⟩
 ·rintro ⟨h1, h2, h3⟩
  refine ⟨b.var, h1, ?_⟩
  rw [if_neg h3, ← h2]
theorem valL_pw (hl : l.Pairwise (· < ·)) : (valL val l).Pairwise fun a b => a.var < b.var := by
 rw [valL, List.pairwise_filterMap]
 refine hl.imp fun {v w} h b hb c hc => ?_
 split at hb
 ·cases hb
 ·split at hc
  ·cases hc
  ·cases hb; cases hc; exact h
theorem valL_asF (hl : l.Pairwise (· < ·)) (hout : ∀ v, v ∉ l → val v = .var v) : asF (valL val l) = val := funext fun n => by
 rw [asF]
 cases k : sub (valL val l) n with
 | some x => exact (mem_valL.1 (sub_in k)).2.1
 | none =>
  by_cases h : val n = .var n
  ·exact h.symm
  ·have hn : n ∈ l := Classical.byContradiction fun e => h (hout n e)
   have hm : (⟨n, val n⟩ : B) ∈ valL val l := mem_valL.2 ⟨hn, rfl, h⟩
   have := sub_of_mem (valL_pw hl) hm
   rw [k] at this; cases this
theorem valL_sol {E : List (T × T)} (hS : Solved val E) (hl : l.Pairwise (· < ·)) (hout : ∀ v, v ∉ l → val v = .var v) : SolL (valL val l) E :=
 ⟨srt_of_pw (valL_pw hl), fun b hb => by
  have := mem_valL.1 hb
  rw [this.2.1]; exact this.2.2, by rw [valL_asF hl hout]; exact hS⟩
end
end Go.Vx
namespace Go.Vx
open Go.Proofs Classical
inductive Cl.Reach (c : Cl) (x : Int) : Int → Prop
 | here : Cl.Reach c x x
 | step {r : Int} {t : T} {u : Int} : r ≠ x → c.shp r = some t → t.occ u → Cl.Reach c x (c.rep u) → Cl.Reach c x r
def Cl.TReach (c : Cl) (x : Int) (t : T) : Prop := ∃ u, t.occ u ∧ c.Reach x (c.rep u)
theorem Cl.Reach.unshape {c : Cl} {x : Int} {t : T} {r : Int} (h : (c.shape x t).Reach x r) : c.Reach x r := by
 induction h with
 | here => exact .here
 | step h1 h2 h3 _ ih =>
  refine .step h1 ?_ h3 ih
  simp only [Cl.shape] at h2
  rwa [if_neg h1] at h2
theorem Cl.TReach.unshape {c : Cl} {x : Int} {t y : T} (h : (c.shape x t).TReach x y) : c.TReach x y := by
 obtain ⟨u, h1, h2⟩ := h
 exact ⟨u, h1, h2.unshape⟩
section
variable {c : Cl} {rank : Int → Nat} {val : Int → T}
theorem Cl.Reach.root (h : c.Ok rank) {x r : Int} (hx : c.rep x = x) (k : c.Reach x r) : c.rep r = r := by
 cases k with
 | here => exact hx
 | step _ h2 _ _ => exact h.root _ _ h2
theorem Cl.Reach.occ (h : c.Ok rank) (hv : c.IsVal val) {x : Int} (hx : c.rep x = x) (hs : c.shp x = none) {r : Int} (k : c.Reach x r) : (val r).occ x := by
 induction k with
 | here => rw [hv.plain (by rw [hx]; exact hs), hx]; rfl
 | step h1 h2 h3 _ ih =>
  rw [hv.shaped (by rw [h.root _ _ h2]; exact h2)]
  exact T.occ_of_ap h3 (by rw [← hv.rep h]; exact ih)
theorem Cl.TReach.occ (h : c.Ok rank) (hv : c.IsVal val) {x : Int} (hx : c.rep x = x) (hs : c.shp x = none) {t : T} (k : c.TReach x t) : (t.ap val).occ x := by
 obtain ⟨u, h1, h2⟩ := k
 exact T.occ_of_ap h1 (by rw [← hv.rep h]; exact h2.occ h hv hx hs)
def Cl.Shut (c : Cl) (x : Int) (t : T) : Prop := ∃ S : Int → Prop, c.Closed x S ∧ (∀ r, S r → r ≠ x) ∧ ∀ u, t.occ u → c.rep u ≠ x ∧ (c.shp (c.rep u) ≠ none → S (c.rep u))
theorem Cl.Shut.unshape {x : Int} {t y : T} (hs : c.shp x = none) (k : (c.shape x t).Shut x y) : c.Shut x y := by
 obtain ⟨S, h1, h2, h3⟩ := k
 have e : ∀ r, r ≠ x → (c.shape x t).shp r = c.shp r := fun r hr => by simp only [Cl.shape]; rw [if_neg hr]
 have e2 : ∀ r, c.shp r ≠ none → (c.shape x t).shp r ≠ none := fun r hr => by
  rw [e r fun k => hr (by rw [k]; exact hs)]; exact hr
 refine ⟨S, fun r hr t' ht' u hu => ?_, h2, fun u hu => ⟨(h3 u hu).1, fun k => (h3 u hu).2 (e2 _ k)⟩⟩
 have := h1 r hr t' (by rw [e r (h2 r hr)]; exact ht') u hu
 exact ⟨this.1, fun k => this.2 (e2 _ k)⟩
theorem Cl.Shut.not_occ (h : c.Ok rank) (hv : c.IsVal val) {x : Int} {t : T} (k : c.Shut x t) : ¬ (t.ap val).occ x := fun ho => by
 obtain ⟨S, h1, _, h3⟩ := k
 have w_ := T.occ_ap ho
 obtain ⟨m, hm, hk⟩ := w_
 exact Cl.Closed.not_occ h hv h1 _ m (Nat.lt_succ_self _) (h3 m hm).1 (h3 m hm).2 hk
end
structure Cl.In (N : List Int) (P : T → Prop) (c : Cl) : Prop where
 rep : ∀ v ∈ N, c.rep v ∈ N
 out : ∀ v, v ∉ N → c.rep v = v
 shp : ∀ x t, c.shp x = some t → x ∈ N ∧ P t
def Cl.Good (c : Cl) : Prop := ∃ rank, c.Ok rank
noncomputable def Cl.M (N : List Int) (c : Cl) : Nat := (N.filter fun v => decide (c.rep v = v)).length + (N.filter fun v => decide (c.rep v = v ∧ c.shp v = none)).length
def EqR (N : List Int) (P : T → Prop) (c : Cl) (a b : T) : Bool → Cl → Prop
 | true, c' => c'.Good ∧ c'.In N P ∧ (∀ θ, c'.Sol θ ↔ c.Sol θ ∧ a.ap θ = b.ap θ) ∧ (c' = c ∨ c'.M N < c.M N)
 | false, _ => ∀ θ, ¬ (c.Sol θ ∧ a.ap θ = b.ap θ)
section
variable {N : List Int} {P : T → Prop} {c c1 c2 : Cl} {a b : T} {o : Bool}
theorem Cl.Good.same (hg : c.Good) (hi : c.In N P) (h : ∀ θ, c.Sol θ → a.ap θ = b.ap θ) : EqR N P c a b true c := ⟨hg, hi, fun θ => ⟨fun k => ⟨k, h θ k⟩, fun k => k.1⟩, .inl rfl⟩
theorem EqR.swap (h : EqR N P c b a o c1) : EqR N P c a b o c1 := by
 cases o with
 | true => exact ⟨h.1, h.2.1, fun θ => (h.2.2.1 θ).trans ⟨fun k => ⟨k.1, k.2.symm⟩, fun k => ⟨k.1, k.2.symm⟩⟩, h.2.2.2⟩
 | false => exact fun θ k => h θ ⟨k.1, k.2.symm⟩
theorem EqR.walk {n : Int} {t : T} (hs : c.shp (c.rep n) = some t) (h : EqR N P c t b o c1) : EqR N P c (.var n) b o c1 := by
 have key : ∀ θ, c.Sol θ → (T.var n).ap θ = t.ap θ := fun θ k => by
  show θ n = _
  rw [← k.1 n]; exact k.2 _ _ hs
 cases o with
 | true =>
  refine ⟨h.1, h.2.1, fun θ => (h.2.2.1 θ).trans ⟨fun k => ⟨k.1, ?_⟩, fun k => ⟨k.1, ?_⟩⟩, h.2.2.2⟩
  ·rw [key θ k.1]; exact k.2
  ·rw [← key θ k.1]; exact k.2
 | false => exact fun θ k => h θ ⟨k.1, by rw [← key θ k.1]; exact k.2⟩
theorem EqR.pair_false {a' b' : T} (h : EqR N P c a b false c1) : EqR N P c (.pair a a') (.pair b b') false c2 := fun θ k => by
 have k2 : T.pair (a.ap θ) (a'.ap θ) = T.pair (b.ap θ) (b'.ap θ) := k.2
 rw [T.pair.injEq] at k2
 exact h θ ⟨k.1, k2.1⟩
theorem EqR.pair {a' b' : T} (h : EqR N P c a b true c1) (h2 : EqR N P c1 a' b' o c2) : EqR N P c (.pair a a') (.pair b b') o c2 := by
 have key : ∀ θ, (T.pair a a').ap θ = (T.pair b b').ap θ ↔ a.ap θ = b.ap θ ∧ a'.ap θ = b'.ap θ := fun θ => by
  rw [T.ap, T.ap, T.pair.injEq]
 cases o with
 | true =>
  refine ⟨h2.1, h2.2.1, fun θ => (h2.2.2.1 θ).trans ?_, ?_⟩
  ·rw [h.2.2.1 θ, key, and_assoc]
  ·rcases h.2.2.2 with rfl | h3
   ·exact h2.2.2.2
   ·rcases h2.2.2.2 with rfl | h4
    ·exact .inr h3
    ·exact .inr (by omega)
 | false =>
  intro θ k
  have k2 := (key θ).1 k.2
  exact h2 θ ⟨(h.2.2.1 θ).2 ⟨k.1, k2.1⟩, k2.2⟩
theorem Cl.merge_in (hi : c.In N P) {x y : Int} (hx : x ∈ N) (hy : y ∈ N) (_hy2 : c.rep y = y) : (c.merge x y).In N P where
 rep v hv := by
  simp only [Cl.merge]
  split
  ·exact hx
  ·exact hi.rep v hv
 out v hv := by
  simp only [Cl.merge]
  rw [hi.out v hv, if_neg fun e => hv (by rw [e]; exact hy)]
 shp z t e := by
  simp only [Cl.merge] at e
  split at e
  ·cases e
  ·exact hi.shp z t e
theorem Cl.shape_in (hi : c.In N P) {x : Int} {t : T} (hx : x ∈ N) (ht : P t) : (c.shape x t).In N P where
 rep := hi.rep
 out := hi.out
 shp z u e := by
  simp only [Cl.shape] at e
  split at e
  ·rename_i k; subst k; cases e; exact ⟨hx, ht⟩
  ·exact hi.shp z u e
theorem Cl.merge_M {x y : Int} (hx : x ∈ N) (hy : y ∈ N) (hx2 : c.rep x = x) (hy2 : c.rep y = y) (hlt : x ≠ y) (d : Cl) (hd : d.rep = (c.merge x y).rep) (hd2 : ∀ v, v ≠ x → v ≠ y → d.shp v = c.shp v) (hd3 : d.shp x = none → c.shp x = none) : d.M N < c.M N := by
 have h1 : (N.filter fun v => decide (d.rep v = v)).length < (N.filter fun v => decide (c.rep v = v)).length := by
  refine filter_lt (fun v _ k => ?_) y hy ?_ (decide_eq_true hy2)
  ·simp only [decide_eq_true_eq] at k ⊢
   rw [hd] at k
   simp only [Cl.merge] at k
   split at k
   ·rw [← k]; exact hx2
   ·exact k
  ·refine decide_eq_false fun k => ?_
   rw [hd] at k
   simp only [Cl.merge] at k
   rw [if_pos hy2] at k
   exact hlt k
 have h2 : (N.filter fun v => decide (d.rep v = v ∧ d.shp v = none)).length ≤ (N.filter fun v => decide (c.rep v = v ∧ c.shp v = none)).length := by
  refine filter_le fun v _ k => ?_
  simp only [decide_eq_true_eq] at k ⊢
  obtain ⟨k, k2⟩ := k
  rw [hd] at k
  simp only [Cl.merge] at k
  by_cases e : v = x
  ·subst e; exact ⟨hx2, hd3 k2⟩
  ·split at k
   ·exact absurd k.symm e
   ·rename_i k3
    refine ⟨k, ?_⟩
    rw [← hd2 v e fun e2 => k3 (by rw [e2]; exact hy2)]
    exact k2
 unfold Cl.M
 omega
theorem Cl.shape_M {x : Int} {t : T} (hx : x ∈ N) (hx2 : c.rep x = x) (hs : c.shp x = none) : (c.shape x t).M N < c.M N := by
 have h2 : (N.filter fun v => decide ((c.shape x t).rep v = v ∧ (c.shape x t).shp v = none)).length < (N.filter fun v => decide (c.rep v = v ∧ c.shp v = none)).length := by
  refine filter_lt (fun v _ k => ?_) x hx ?_ (decide_eq_true ⟨hx2, hs⟩)
  ·rw [decide_eq_true_eq] at k ⊢
   obtain ⟨k, k2⟩ := k
   have k2 : (if v = x then some t else c.shp v) = none := k2
   split at k2
   ·cases k2
   ·exact ⟨k, k2⟩
  ·refine decide_eq_false fun k => ?_
   have := k.2
   simp [Cl.shape] at this
 show (N.filter fun v => decide (c.rep v = v)).length + _ < _
 unfold Cl.M
 omega
section
variable {x y : Int}
theorem EqR.merge (hg : c.Good) (hi : c.In N P) {n m : Int} (hn : n ∈ N) (hm : m ∈ N) (h : (c.rep n = x ∧ c.rep m = y) ∨ (c.rep n = y ∧ c.rep m = x)) (hlt : x < y) (h1 : c.shp x = none) (h2 : c.shp y = none) : EqR N P c (.var n) (.var m) true (c.merge x y) := by
 obtain ⟨rank, hok⟩ := hg
 have hx2 : c.rep x = x := by rcases h with ⟨rfl, _⟩ | ⟨_, rfl⟩ <;> exact hok.idem _
 have hy2 : c.rep y = y := by rcases h with ⟨_, rfl⟩ | ⟨rfl, _⟩ <;> exact hok.idem _
 have hx : x ∈ N := by rcases h with ⟨rfl, _⟩ | ⟨_, rfl⟩ <;> exact hi.rep _ ‹_›
 have hy : y ∈ N := by rcases h with ⟨_, rfl⟩ | ⟨rfl, _⟩ <;> exact hi.rep _ ‹_›
 refine ⟨⟨_, Cl.merge_ok hok hx2 hy2 hlt⟩, Cl.merge_in hi hx hy hy2, fun θ => ?_, .inr (Cl.merge_M hx hy hx2 hy2 (by omega) _ rfl (fun v a b => ?_) (fun _ => h1))⟩
 ·have key : c.Sol θ → ((T.var n).ap θ = (T.var m).ap θ ↔ θ x = θ y) := fun k => by
   show θ n = θ m ↔ _
   rw [← k.1 n, ← k.1 m]
   rcases h with ⟨rfl, rfl⟩ | ⟨rfl, rfl⟩
   ·exact Iff.rfl
   ·exact eq_comm
  refine Iff.trans ?_ (and_congr_right key).symm
  rw [Cl.merge_sol hy2 (by omega)]
  exact ⟨fun k => ⟨k, ⟨fun t e => (by rw [h1] at e; cases e), fun t e => (by rw [h2] at e; cases e)⟩⟩, fun k => k.1⟩
 ·simp only [Cl.merge]; rw [if_neg (fun k => k.elim a b)]
structure OneShape (c : Cl) (x y : Int) (t : T) : Prop where
 have_ : (c.shp x = some t ∧ c.shp y = none) ∨ (c.shp x = none ∧ c.shp y = some t)
theorem Cl.merge1 (hg : c.Good) (hi : c.In N P) {n m : Int} (hn : n ∈ N) (hm : m ∈ N) (h : (c.rep n = x ∧ c.rep m = y) ∨ (c.rep n = y ∧ c.rep m = x)) (hlt : x < y) {t : T} (h1 : OneShape c x y t) :
  (((c.merge x y).shape x t).TReach x t → EqR N P c (.var n) (.var m) false c2) ∧ (((c.merge x y).shape x t).Shut x t → EqR N P c (.var n) (.var m) true ((c.merge x y).shape x t)) := by
 obtain ⟨rank, hok⟩ := hg
 have hx2 : c.rep x = x := by rcases h with ⟨rfl, _⟩ | ⟨_, rfl⟩ <;> exact hok.idem _
 have hy2 : c.rep y = y := by rcases h with ⟨_, rfl⟩ | ⟨rfl, _⟩ <;> exact hok.idem _
 have hx : x ∈ N := by rcases h with ⟨rfl, _⟩ | ⟨_, rfl⟩ <;> exact hi.rep _ ‹_›
 have hy : y ∈ N := by rcases h with ⟨_, rfl⟩ | ⟨rfl, _⟩ <;> exact hi.rep _ ‹_›
 have hm1 := Cl.merge_ok hok hx2 hy2 hlt
 have hmx : (c.merge x y).rep x = x := by simp only [Cl.merge]; rw [hx2, if_neg (by omega)]
 have hms : (c.merge x y).shp x = none := by simp [Cl.merge]
 have hnv : ∀ k, t ≠ .var k := by
  rcases h1.have_ with ⟨e, _⟩ | ⟨_, e⟩
  ·exact hok.nv _ _ e
  ·exact hok.nv _ _ e
 have hin : P t := by
  rcases h1.have_ with ⟨e, _⟩ | ⟨_, e⟩
  ·exact (hi.shp _ _ e).2
  ·exact (hi.shp _ _ e).2
 have w_ := hm1.has_val
 obtain ⟨val, hval⟩ := w_
 have key : ∀ θ, (c.Sol θ ∧ (T.var n).ap θ = (T.var m).ap θ) ↔ (c.merge x y).Sol θ ∧ θ x = t.ap θ := fun θ => by
  have key : c.Sol θ → ((T.var n).ap θ = (T.var m).ap θ ↔ θ x = θ y) := fun k => by
   show θ n = θ m ↔ _
   rw [← k.1 n, ← k.1 m]
   rcases h with ⟨rfl, rfl⟩ | ⟨rfl, rfl⟩
   ·exact Iff.rfl
   ·exact eq_comm
  refine (and_congr_right key).trans ?_
  rw [Cl.merge_sol hy2 (by omega)]
  rcases h1.have_ with ⟨e1, e2⟩ | ⟨e1, e2⟩
  ·exact ⟨fun k => ⟨k.1, k.2.1 _ e1⟩, fun k => ⟨k.1, fun u e => by rw [e1] at e; cases e; exact k.2, fun u e => by rw [e2] at e; cases e⟩⟩
  ·exact ⟨fun k => ⟨k.1, k.2.2 _ e2⟩, fun k => ⟨k.1, fun u e => (by rw [e1] at e; cases e), fun u e => by rw [e2] at e; cases e; exact k.2⟩⟩
 constructor
 ·intro hr θ k
  exact Cl.shape_never hm1 hval hmx hms hnv (hr.unshape.occ hm1 hval hmx hms) θ ((key θ).1 k)
 ·intro hs
  have ho := (hs.unshape hms).not_occ hm1 hval
  refine ⟨Cl.shape_ok hm1 hval hmx hms hnv ho, Cl.shape_in (Cl.merge_in hi hx hy hy2) hx hin, fun θ => (Cl.shape_sol hms θ).trans (key θ).symm, .inr (Cl.merge_M hx hy hx2 hy2 (by omega) _ rfl (fun v a b => ?_) (fun e => ?_))⟩
  ·simp only [Cl.shape, Cl.merge]; rw [if_neg a, if_neg (fun k => k.elim a b)]
  ·simp [Cl.shape] at e
theorem Cl.merge2 (hg : c.Good) (hi : c.In N P) {n m : Int} (hn : n ∈ N) (hm : m ∈ N) (h : (c.rep n = x ∧ c.rep m = y) ∨ (c.rep n = y ∧ c.rep m = x)) (hlt : x < y) {t u : T} (h1 : c.shp x = some t) (h2 : c.shp y = some u) :
  (((c.merge x y).shape x t).TReach x u → EqR N P c (.var n) (.var m) false c2) ∧ (((c.merge x y).shape x t).TReach x t → EqR N P c (.var n) (.var m) false c2) ∧
  (((c.merge x y).shape x t).Shut x t → ((c.merge x y).shape x t).Good ∧ ((c.merge x y).shape x t).In N P ∧ ((c.merge x y).shape x t).M N < c.M N ∧ ∀ o c2, EqR N P ((c.merge x y).shape x t) t u o c2 → EqR N P c (.var n) (.var m) o c2) := by
 obtain ⟨rank, hok⟩ := hg
 have hx2 : c.rep x = x := by rcases h with ⟨rfl, _⟩ | ⟨_, rfl⟩ <;> exact hok.idem _
 have hy2 : c.rep y = y := by rcases h with ⟨_, rfl⟩ | ⟨rfl, _⟩ <;> exact hok.idem _
 have hx : x ∈ N := by rcases h with ⟨rfl, _⟩ | ⟨_, rfl⟩ <;> exact hi.rep _ ‹_›
 have hy : y ∈ N := by rcases h with ⟨_, rfl⟩ | ⟨rfl, _⟩ <;> exact hi.rep _ ‹_›
 have hm1 := Cl.merge_ok hok hx2 hy2 hlt
 have hmx : (c.merge x y).rep x = x := by simp only [Cl.merge]; rw [hx2, if_neg (by omega)]
 have hms : (c.merge x y).shp x = none := by simp [Cl.merge]
 have hnv := hok.nv _ _ h1
 have hnu := hok.nv _ _ h2
 have hin := (hi.shp _ _ h1).2
 have w_ := hm1.has_val
 obtain ⟨val, hval⟩ := w_
 have key : ∀ θ, (c.Sol θ ∧ (T.var n).ap θ = (T.var m).ap θ) ↔ (c.merge x y).Sol θ ∧ θ x = t.ap θ ∧ θ x = u.ap θ := fun θ => by
  have key : c.Sol θ → ((T.var n).ap θ = (T.var m).ap θ ↔ θ x = θ y) := fun k => by
   show θ n = θ m ↔ _
   rw [← k.1 n, ← k.1 m]
   rcases h with ⟨rfl, rfl⟩ | ⟨rfl, rfl⟩
   ·exact Iff.rfl
   ·exact eq_comm
  refine (and_congr_right key).trans ?_
  rw [Cl.merge_sol hy2 (by omega)]
  exact ⟨fun k => ⟨k.1, k.2.1 _ h1, k.2.2 _ h2⟩, fun k => ⟨k.1, fun w e => by rw [h1] at e; cases e; exact k.2.1, fun w e => by rw [h2] at e; cases e; exact k.2.2⟩⟩
 refine ⟨fun hr θ k => ?_, fun hr θ k => ?_, fun hs => ?_⟩
 ·have := (key θ).1 k
  exact Cl.shape_never hm1 hval hmx hms hnu (hr.unshape.occ hm1 hval hmx hms) θ ⟨this.1, this.2.2⟩
 ·have := (key θ).1 k
  exact Cl.shape_never hm1 hval hmx hms hnv (hr.unshape.occ hm1 hval hmx hms) θ ⟨this.1, this.2.1⟩
 ·have ho := (hs.unshape hms).not_occ hm1 hval
  have hM : ((c.merge x y).shape x t).M N < c.M N := Cl.merge_M hx hy hx2 hy2 (by omega) _ rfl (fun v a b => by simp only [Cl.shape, Cl.merge]; rw [if_neg a, if_neg (fun k => k.elim a b)]) (fun e => by simp [Cl.shape] at e)
  have hiff : ∀ θ, (((c.merge x y).shape x t).Sol θ ∧ t.ap θ = u.ap θ) ↔ c.Sol θ ∧ (T.var n).ap θ = (T.var m).ap θ := fun θ => by
   rw [Cl.shape_sol hms, key]
   exact ⟨fun k => ⟨k.1.1, k.1.2, k.1.2.trans k.2⟩, fun k => ⟨⟨k.1, k.2.1⟩, k.2.1.symm.trans k.2.2⟩⟩
  refine ⟨Cl.shape_ok hm1 hval hmx hms hnv ho, Cl.shape_in (Cl.merge_in hi hx hy hy2) hx hin, hM, fun o c2 hE => ?_⟩
  cases o with
  | true =>
   refine ⟨hE.1, hE.2.1, fun θ => (hE.2.2.1 θ).trans (hiff θ), ?_⟩
   rcases hE.2.2.2 with rfl | h4
   ·exact .inr hM
   ·exact .inr (by omega)
  | false => exact fun θ k => hE θ ((hiff θ).2 k)
theorem Cl.shape1 (hg : c.Good) (hi : c.In N P) {n : Int} (hn : n ∈ N) (h : c.rep n = x) (hs : c.shp x = none) (hb : ∀ m, b ≠ .var m) (hin : P b) :
  ((c.shape x b).TReach x b → EqR N P c (.var n) b false c2) ∧ ((c.shape x b).Shut x b → EqR N P c (.var n) b true (c.shape x b)) := by
 obtain ⟨rank, hok⟩ := hg
 have hx2 : c.rep x = x := by rw [← h]; exact hok.idem _
 have hx : x ∈ N := by rw [← h]; exact hi.rep _ hn
 have w_ := hok.has_val
 obtain ⟨val, hval⟩ := w_
 have key : ∀ θ, (c.Sol θ ∧ (T.var n).ap θ = b.ap θ) ↔ c.Sol θ ∧ θ x = b.ap θ := fun θ => and_congr_right fun k => by
  show θ n = _ ↔ _
  rw [← k.1 n, h]
 constructor
 ·intro hr θ k
  exact Cl.shape_never hok hval hx2 hs hb (hr.unshape.occ hok hval hx2 hs) θ ((key θ).1 k)
 ·intro hsh
  have ho := (hsh.unshape hs).not_occ hok hval
  exact ⟨Cl.shape_ok hok hval hx2 hs hb ho, Cl.shape_in hi hx hin, fun θ => (Cl.shape_sol hs θ).trans (key θ).symm, .inr (Cl.shape_M hx hx2 hs)⟩
end
theorem EqR.clash (h : a.tm.kind ≠ b.tm.kind ∨ a.tm.num ≠ b.tm.num ∨ a.tm.name ≠ b.tm.name) (h1 : a.tm.kind ≠ 1) (h2 : b.tm.kind ≠ 1) : EqR N P c a b false c1 := fun θ k => by
 have e := k.2
 cases a <;> cases b <;> simp_all [T.ap, T.tm, Tm.kind, Tm.num, Tm.name]
end
end Go.Vx
namespace Go.Vx
open Go.Proofs Classical
theorem Cl.val_self {c : Cl} {rank : Int → Nat} {val : Int → T} (h : c.Ok rank) (hv : c.IsVal val) (v : Int) : val v = .var v ↔ c.rep v = v ∧ c.shp v = none := by
 cases e : c.shp (c.rep v) with
 | none =>
  rw [hv.plain e, T.var.injEq]
  exact ⟨fun k => ⟨k, by rw [k] at e; exact e⟩, fun k => k.1⟩
 | some t =>
  rw [hv.shaped e]
  constructor
  ·intro k; exact absurd k (nv_ap (h.nv _ _ e) val v)
  ·rintro ⟨k1, k2⟩; rw [k1, k2] at e; cases e
noncomputable def eqsB (bs : List B) : List (T × T) := bs.map fun b => (.var b.var, b.to)
theorem solves_eqsB {θ : Int → T} {bs : List B} : SolvesE θ (eqsB bs) ↔ ∀ b ∈ bs, θ b.var = b.to.ap θ := by
 unfold SolvesE eqsB
 constructor
 ·intro h b hb; exact h _ (List.mem_map.2 ⟨b, hb, rfl⟩)
 ·intro h e he
  have w_ := List.mem_map.1 he
  obtain ⟨b, hb, rfl⟩ := w_
  exact h b hb
theorem solves_append {θ : Int → T} {E F : List (T × T)} : SolvesE θ (E ++ F) ↔ SolvesE θ E ∧ SolvesE θ F := by
 unfold SolvesE
 constructor
 ·intro h; exact ⟨fun e he => h e (List.mem_append_left _ he), fun e he => h e (List.mem_append_right _ he)⟩
 ·rintro ⟨h1, h2⟩ e he
  exact (List.mem_append.1 he).elim (h1 e) (h2 e)
theorem solves_cons {θ : Int → T} {E : List (T × T)} {a b : T} : SolvesE θ ((a, b) :: E) ↔ a.ap θ = b.ap θ ∧ SolvesE θ E := by
 unfold SolvesE
 simp
theorem T.occ_vars {n : Int} : ∀ {x : T}, x.occ n ↔ n ∈ x.vars
 | .var m => by
  show m = n ↔ n ∈ [m]
  rw [List.mem_singleton]; exact eq_comm
 | .pair a b => by
  show a.occ n ∨ b.occ n ↔ n ∈ a.vars ++ b.vars
  rw [List.mem_append, T.occ_vars (x := a), T.occ_vars (x := b)]
 | .nil => ⟨fun h => h.elim, fun h => by simp [T.vars] at h⟩
 | .sym _ => ⟨fun h => h.elim, fun h => by simp [T.vars] at h⟩
 | .num _ => ⟨fun h => h.elim, fun h => by simp [T.vars] at h⟩
theorem valsOk_of {bs : List B} (h : Srt bs) (hl : bs.length ≤ 400) (hb : ∀ b ∈ bs, (0 ≤ b.var ∧ b.var ≤ 100000) ∧ b.to.good ∧ b.to.size ≤ 5000) : valsOk (bs.map B.bd) := by
 refine ⟨by rw [List.length_map]; exact hl, fun i b hi => ?_⟩
 rw [List.getElem?_map] at hi
 cases e : bs[i]? with
 | none => rw [e] at hi; cases hi
 | some c =>
  rw [e] at hi
  cases hi
  have h1 := hb c (mAt e)
  refine ⟨h1.1, T.ok.tm ⟨h1.2.1, h1.2.2⟩, fun j d hj hd => ?_⟩
  rw [List.getElem?_map] at hd
  cases e2 : bs[j]? with
  | none => rw [e2] at hd; cases hd
  | some c2 =>
   rw [e2] at hd
   cases hd
   exact h j i c2 c (by omega) e2 e
theorem Subst.solL {bs : List B} (h : Subst bs) : SolL bs (eqsB bs) := by
 have hpw := h.vals.srt.pw
 have hfix : ∀ b ∈ bs, b.to.ap (asF bs) = b.to := fun b hb => by
  refine (T.ap_congr (t := T.var) fun n hn => ?_).trans (T.ap_var _)
  rw [asF, (h.bnd b hb).2 n (T.occ_vars.1 hn)]; rfl
 have hat : ∀ b ∈ bs, asF bs b.var = b.to := fun b hb => by rw [asF, sub_of_mem hpw hb]; rfl
 refine ⟨h.vals.srt, fun b hb e => ?_, ⟨solves_eqsB.2 fun b hb => by rw [hat b hb, hfix b hb], fun t ht n => ?_, fun n m e => ?_⟩⟩
 ·refine (h.bnd b hb).1 ⟨by rw [e]; rfl, by rw [e]; exact Int.le_refl _⟩
 ·cases k : sub bs n with
  | none => rw [asF, k]; rfl
  | some x =>
   have hb := sub_in k
   rw [asF, k]
   exact (solves_eqsB.1 ht _ hb).symm
 ·cases k : sub bs n with
  | none => rw [asF, k] at e; cases e; exact Int.le_refl _
  | some x =>
   have hb := sub_in k
   rw [asF, k] at e
   have e : x = .var m := e
   refine Int.le_of_lt (Int.not_le.1 fun hle => (h.bnd _ hb).1 ⟨?_, ?_⟩)
   ·show x.tm.kind = 1; rw [e]; rfl
   ·show n ≤ x.tm.num; rw [e]; exact hle
theorem Vals.fits {bs : List B} (h : Vals bs) : FitsL bs := ⟨fun b hb => (h.tok b hb).2, h.len⟩
theorem SolL.subst {bs : List B} {E : List (T × T)} (h : SolL bs E) (hf : FitsL bs) (hg : ∀ b ∈ bs, b.to.good ∧ 0 ≤ b.var ∧ b.var ≤ 100000) : Subst bs := by
 refine ⟨⟨?_⟩, fun b hb => ⟨fun k => ?_, fun n hn => ?_⟩⟩
 ·refine valsOk_of h.srt hf.2 fun b hb => ⟨(hg b hb).2, (hg b hb).1, hf.1 b hb⟩
 ·obtain ⟨k1, k2⟩ := k
  have h1 : asF bs b.var = b.to := by rw [asF, sub_of_mem h.srt.pw hb]; rfl
  cases e : b.to with
  | var m =>
   rw [e] at h1 k2
   have := h.sol.least _ _ h1
   have k2 : b.var ≤ m := k2
   exact h.proper b hb (by rw [e, show m = b.var by omega])
  | _ => rw [e] at k1; simp [T.tm, Tm.kind] at k1
 ·have h1 : asF bs b.var = b.to := by rw [asF, sub_of_mem h.srt.pw hb]; rfl
  have h2 := h.sol.self (n := b.var) (m := n) (by rw [h1]; exact T.occ_vars.2 hn)
  cases k : sub bs n with
  | none => rfl
  | some x =>
   rw [asF, k] at h2
   exact absurd h2 (h.proper _ (sub_in k))
end Go.Vx
namespace Go.Vx
open Go.Proofs Classical
def Fr (l : List Nat) (h h' : Mem) : Prop := ∀ b, h b ≠ none → b ∉ l → h' b = h b
theorem Fr.refl (l : List Nat) (h : Mem) : Fr l h h := fun _ _ _ => rfl
theorem Fr.trans {l : List Nat} {h h' h'' : Mem} (a : Fr l h h') (b : Fr l h' h'') : Fr l h h'' := fun x hx hl => by
 have e := a x hx hl
 rw [b x (by rw [e]; exact hx) hl, e]
theorem Fr.weaken {l m : List Nat} {h h' : Mem} (a : Fr l h h') (k : ∀ x ∈ l, x ∈ m) : Fr m h h' := fun x hx hl => a x hx fun e => hl (k x e)
theorem Fr.set {l : List Nat} {h : Mem} {r : Nat} {o : Obj} (k : r ∈ l) : Fr l h (h.set r o) := fun x _ hl => Mem.set_ne fun e => hl (by rw [e]; exact k)
theorem Fr.new {l : List Nat} {h : Mem} {r : Nat} {o : Obj} (k : h r = none) : Fr l h (h.set r o) := fun x hx _ => Mem.set_ne fun e => hx (by rw [e]; exact k)
theorem Fr.at {l : List Nat} {h h' : Mem} (a : Fr l h h') {b : Nat} {o : Obj} (hb : h b = some o) (hl : b ∉ l) : h' b = some o := by
 rw [a b (by rw [hb]; exact fun k => nomatch k) hl, hb]
structure ClRefs where
 c : Nat
 u : Nat
 s : Nat
 d : Nat
 k : Nat
 z : Nat
 f : Nat
def ClRefs.l (R : ClRefs) : List Nat := [R.c, R.u, R.s, R.d, R.k, R.z, R.f]
structure ClAt (R : ClRefs) (h : Mem) (lu ls ld lk lz lf : List (Value × Value)) : Prop where
 nd : R.l.Nodup
 c : h R.c = some (.cells #[.map (some R.u), .map (some R.s), .map (some R.d), .map (some R.k), .map (some R.z), .map (some R.f)] 153 (0, 0))
 u : h R.u = some (mapO lu)
 s : h R.s = some (mapO ls)
 d : h R.d = some (mapO ld)
 k : h R.k = some (mapO lk)
 z : h R.z = some (mapO lz)
 f : h R.f = some (mapO lf)
section
variable {R : ClRefs} {h h' : Mem} {lu ls ld lk lz lf l : List (Value × Value)}
theorem ClAt.fr (a : ClAt R h lu ls ld lk lz lf) (k : ∀ b ∈ R.l, h' b = h b) : ClAt R h' lu ls ld lk lz lf :=
 ⟨a.nd, by rw [k _ (by simp [ClRefs.l])]; exact a.c, by rw [k _ (by simp [ClRefs.l])]; exact a.u, by rw [k _ (by simp [ClRefs.l])]; exact a.s, by rw [k _ (by simp [ClRefs.l])]; exact a.d, by rw [k _ (by simp [ClRefs.l])]; exact a.k, by rw [k _ (by simp [ClRefs.l])]; exact a.z, by rw [k _ (by simp [ClRefs.l])]; exact a.f⟩
theorem ClAt.dom (a : ClAt R h lu ls ld lk lz lf) : ∀ b ∈ R.l, h b ≠ none := fun b hb => by
 simp only [ClRefs.l, List.mem_cons, List.not_mem_nil, or_false] at hb
 rcases hb with rfl | rfl | rfl | rfl | rfl | rfl | rfl
 ·rw [a.c]; exact fun k => nomatch k
 ·rw [a.u]; exact fun k => nomatch k
 ·rw [a.s]; exact fun k => nomatch k
 ·rw [a.d]; exact fun k => nomatch k
 ·rw [a.k]; exact fun k => nomatch k
 ·rw [a.z]; exact fun k => nomatch k
 ·rw [a.f]; exact fun k => nomatch k
theorem ClAt.off (a : ClAt R h lu ls ld lk lz lf) {L : List Nat} (k : Fr L h h') (hL : ∀ b ∈ L, b ∉ R.l) : ClAt R h' lu ls ld lk lz lf :=
 a.fr fun b hb => k b (a.dom b hb) fun e => hL b e hb
theorem ClAt.ne (a : ClAt R h lu ls ld lk lz lf) : (R.c ≠ R.u ∧ R.c ≠ R.s ∧ R.c ≠ R.d ∧ R.c ≠ R.k ∧ R.c ≠ R.z ∧ R.c ≠ R.f) ∧ (R.u ≠ R.s ∧ R.u ≠ R.d ∧ R.u ≠ R.k ∧ R.u ≠ R.z ∧ R.u ≠ R.f) ∧ (R.s ≠ R.d ∧ R.s ≠ R.k ∧ R.s ≠ R.z ∧ R.s ≠ R.f) ∧ (R.d ≠ R.k ∧ R.d ≠ R.z ∧ R.d ≠ R.f) ∧ (R.k ≠ R.z ∧ R.k ≠ R.f) ∧ R.z ≠ R.f := by
 have := a.nd
 simp only [ClRefs.l, List.nodup_cons, List.mem_cons, List.not_mem_nil, or_false, not_or, List.nodup_nil, not_false_eq_true, and_true] at this
 exact this
theorem ClAt.setU (a : ClAt R h lu ls ld lk lz lf) : ClAt R (h.set R.u (mapO l)) l ls ld lk lz lf := by
 have n := a.ne
 refine ⟨a.nd, ?_, Mem.set_at _ _ _, ?_, ?_, ?_, ?_, ?_⟩
 ·rw [Mem.set_ne n.1.1]; exact a.c
 ·rw [Mem.set_ne n.2.1.1.symm]; exact a.s
 ·rw [Mem.set_ne n.2.1.2.1.symm]; exact a.d
 ·rw [Mem.set_ne n.2.1.2.2.1.symm]; exact a.k
 ·rw [Mem.set_ne n.2.1.2.2.2.1.symm]; exact a.z
 ·rw [Mem.set_ne n.2.1.2.2.2.2.symm]; exact a.f
theorem ClAt.setS (a : ClAt R h lu ls ld lk lz lf) : ClAt R (h.set R.s (mapO l)) lu l ld lk lz lf := by
 have n := a.ne
 refine ⟨a.nd, ?_, ?_, Mem.set_at _ _ _, ?_, ?_, ?_, ?_⟩
 ·rw [Mem.set_ne n.1.2.1]; exact a.c
 ·rw [Mem.set_ne n.2.1.1]; exact a.u
 ·rw [Mem.set_ne n.2.2.1.1.symm]; exact a.d
 ·rw [Mem.set_ne n.2.2.1.2.1.symm]; exact a.k
 ·rw [Mem.set_ne n.2.2.1.2.2.1.symm]; exact a.z
 ·rw [Mem.set_ne n.2.2.1.2.2.2.symm]; exact a.f
theorem ClAt.setD (a : ClAt R h lu ls ld lk lz lf) : ClAt R (h.set R.d (mapO l)) lu ls l lk lz lf := by
 have n := a.ne
 refine ⟨a.nd, ?_, ?_, ?_, Mem.set_at _ _ _, ?_, ?_, ?_⟩
 ·rw [Mem.set_ne n.1.2.2.1]; exact a.c
 ·rw [Mem.set_ne n.2.1.2.1]; exact a.u
 ·rw [Mem.set_ne n.2.2.1.1]; exact a.s
 ·rw [Mem.set_ne n.2.2.2.1.1.symm]; exact a.k
 ·rw [Mem.set_ne n.2.2.2.1.2.1.symm]; exact a.z
 ·rw [Mem.set_ne n.2.2.2.1.2.2.symm]; exact a.f
theorem ClAt.setK (a : ClAt R h lu ls ld lk lz lf) : ClAt R (h.set R.k (mapO l)) lu ls ld l lz lf := by
 have n := a.ne
 refine ⟨a.nd, ?_, ?_, ?_, ?_, Mem.set_at _ _ _, ?_, ?_⟩
 ·rw [Mem.set_ne n.1.2.2.2.1]; exact a.c
 ·rw [Mem.set_ne n.2.1.2.2.1]; exact a.u
 ·rw [Mem.set_ne n.2.2.1.2.1]; exact a.s
 ·rw [Mem.set_ne n.2.2.2.1.1]; exact a.d
 ·rw [Mem.set_ne n.2.2.2.2.1.1.symm]; exact a.z
 ·rw [Mem.set_ne n.2.2.2.2.1.2.symm]; exact a.f
theorem ClAt.setZ (a : ClAt R h lu ls ld lk lz lf) : ClAt R (h.set R.z (mapO l)) lu ls ld lk l lf := by
 have n := a.ne
 refine ⟨a.nd, ?_, ?_, ?_, ?_, ?_, Mem.set_at _ _ _, ?_⟩
 ·rw [Mem.set_ne n.1.2.2.2.2.1]; exact a.c
 ·rw [Mem.set_ne n.2.1.2.2.2.1]; exact a.u
 ·rw [Mem.set_ne n.2.2.1.2.2.1]; exact a.s
 ·rw [Mem.set_ne n.2.2.2.1.2.1]; exact a.d
 ·rw [Mem.set_ne n.2.2.2.2.1.1]; exact a.k
 ·rw [Mem.set_ne n.2.2.2.2.2.symm]; exact a.f
theorem ClAt.setF (a : ClAt R h lu ls ld lk lz lf) : ClAt R (h.set R.f (mapO l)) lu ls ld lk lz l := by
 have n := a.ne
 refine ⟨a.nd, ?_, ?_, ?_, ?_, ?_, ?_, Mem.set_at _ _ _⟩
 ·rw [Mem.set_ne n.1.2.2.2.2.2]; exact a.c
 ·rw [Mem.set_ne n.2.1.2.2.2.2]; exact a.u
 ·rw [Mem.set_ne n.2.2.1.2.2.2]; exact a.s
 ·rw [Mem.set_ne n.2.2.2.1.2.2]; exact a.d
 ·rw [Mem.set_ne n.2.2.2.2.1.2]; exact a.k
 ·rw [Mem.set_ne n.2.2.2.2.2]; exact a.z
end
structure UF (p rep : Int → Int) : Prop where
 le : ∀ v, p v ≤ v
 up : ∀ v, rep (p v) = rep v
 top : ∀ v, p v = v → rep v = v
theorem UF.halve {p rep : Int → Int} (h : UF p rep) (v : Int) : UF (fun n => if n = v then p (p v) else p n) rep where
 le n := by
  show (if n = v then p (p v) else p n) ≤ n
  split
  ·rename_i e; subst e; exact Int.le_trans (h.le _) (h.le _)
  ·exact h.le n
 up n := by
  show rep (if n = v then p (p v) else p n) = rep n
  split
  ·rename_i e; subst e; rw [h.up, h.up]
  ·exact h.up n
 top n k := by
  have k : (if n = v then p (p v) else p n) = n := k
  split at k
  ·rename_i e
   subst e
   have h1 := h.le n
   have h2 := h.le (p n)
   exact h.top n (by omega)
  ·exact h.top n k
def ShpAt (μ : Mem) (c : Cl) (ls ld : List (Value × Value)) : Prop := ∀ x, c.rep x = x → match c.shp x with
 | some t => mget ld (.int .i64 x) = some (.bool true) ∧ ∃ v, mget ls (.int .i64 x) = some v ∧ RepV μ t.tm.d v
 | none => mget ld (.int .i64 x) = none
theorem ShpAt.some {μ : Mem} {c : Cl} {ls ld : List (Value × Value)} (h : ShpAt μ c ls ld) {x : Int} {t : T} (hx : c.rep x = x) (e : c.shp x = some t) : mget ld (.int .i64 x) = some (.bool true) ∧ ∃ v, mget ls (.int .i64 x) = some v ∧ RepV μ t.tm.d v := by
 have := h x hx
 rwa [e] at this
theorem ShpAt.none {μ : Mem} {c : Cl} {ls ld : List (Value × Value)} (h : ShpAt μ c ls ld) {x : Int} (hx : c.rep x = x) (e : c.shp x = .none) : mget ld (.int .i64 x) = .none := by
 have := h x hx
 rwa [e] at this
theorem ShpAt.mono {μ μ' : Mem} {c : Cl} {ls ld : List (Value × Value)} (h : ShpAt μ c ls ld) (hle : μ.Le μ') : ShpAt μ' c ls ld := fun x hx => by
 cases e : c.shp x with
 | none => exact h.none hx e
 | some t =>
  have w_ := h.some hx e
  obtain ⟨h1, v, h2, h3⟩ := w_
  exact ⟨h1, v, h2, h3.mono hle⟩
structure UpAt (c : Cl) (K : List Int) (lu : List (Value × Value)) : Prop where
 ok : MapOk IntKey lu
 at_ : ∃ p : Int → Int, UF p c.rep ∧ (∀ n, mget lu (.int .i64 n) = if n ∈ K then some (.int .i64 (p n)) else none) ∧ (∀ n, n ∉ K → p n = n) ∧ ∀ n ∈ K, p n ∈ K
structure ClInv (μ : Mem) (R : ClRefs) (c : Cl) (K : List Int) (lk lz lf : List (Value × Value)) (h : Mem) : Prop where
 ex : ∃ lu ls ld, ClAt R h lu ls ld lk lz lf ∧ UpAt c K lu ∧ MapOk IntKey ls ∧ MapOk IntKey ld ∧ ShpAt μ c ls ld
section
variable {μ : Mem} {R : ClRefs} {c : Cl} {K : List Int} {lk lz lf : List (Value × Value)} {h h' : Mem}
theorem ClInv.mono {μ' : Mem} (a : ClInv μ R c K lk lz lf h) (hle : μ.Le μ') : ClInv μ' R c K lk lz lf h := by
 obtain ⟨lu, ls, ld, h1, h2, h3, h4, h5⟩ := a.ex
 exact ⟨lu, ls, ld, h1, h2, h3, h4, h5.mono hle⟩
theorem ClInv.off (a : ClInv μ R c K lk lz lf h) {L : List Nat} (k : Fr L h h') (hL : ∀ b ∈ L, b ∉ R.l) : ClInv μ R c K lk lz lf h' := by
 obtain ⟨lu, ls, ld, h1, h2, h3, h4, h5⟩ := a.ex
 exact ⟨lu, ls, ld, h1.off k hL, h2, h3, h4, h5⟩
theorem ClInv.dom (a : ClInv μ R c K lk lz lf h) : ∀ b ∈ R.l, h b ≠ none := by
 obtain ⟨lu, ls, ld, h1, _⟩ := a.ex
 exact h1.dom
end
theorem ord_of_mem {K : List Int} {n : Int} (h : n ∈ K) : ord K n = K := by rw [ord, if_pos h]
theorem fld_at {h : Mem} {r i : Nat} {cs : List Value} {x : Value} {ty : TypeId} (hc : h r = some (.cells cs.toArray ty (0, 0))) (hi : cs[i]? = some x) : ∀ j v, [x][j]? = some v → h.cell ((⟨r, i, none⟩ : Addr).add j) = some v := fun j v hj => by
 match j, hj with
 | 0, hj => cases hj; simp [Mem.cell, Addr.add_lit', hc, hi]
section
variable {μ : Mem}
theorem root_spec {R : ClRefs} {c : Cl} {K : List Int} {lk lz lf : List (Value × Value)} {h : Mem} (v : Int) (hle : ∀ v, c.rep v ≤ v) (H : ClInv μ R c K lk lz lf h) :
  SpecH Try.prog 106 [.pointer (some ⟨R.c, 0, none⟩), .int .i64 v] μ h fun r μ' h' => r = .int .i64 (c.rep v) ∧ μ' = μ ∧ ClInv μ R c (ord K v) lk lz lf h' ∧ Fr [R.u] h h' := by
 have w_ := H.ex
 obtain ⟨lu, ls, ld, hat, hup, hs, hd, hsh⟩ := w_
 have w_ := hup.at_
 obtain ⟨p, hp, hget, hout, hin⟩ := w_
 refine SpecH.mk [] Try.func106 (by kernel_rfl) ?_
 refine oIn [.map (some R.u)] rfl (fld_at hat.c rfl) ?_
 by_cases hv : v ∈ K
 ·refine look_intro lu (some (.int .i64 (p v))) hat.u (hup.ok.weaken (by rintro _ ⟨n, rfl⟩; rfl)) rfl (by rw [hget, if_pos hv]) ?_
  refine iIn (fun h => nomatch h) (fun _ => ?_)
  have I0 : ∃ lu p, ClAt R h lu ls ld lk lz lf ∧ MapOk IntKey lu ∧ UF p c.rep ∧ (∀ n, mget lu (.int .i64 n) = if n ∈ ord K v then some (.int .i64 (p n)) else none) ∧ (∀ n, n ∉ ord K v → p n = n) ∧ (∀ n ∈ ord K v, p n ∈ ord K v) ∧ Fr [R.u] h h := by
   rw [ord_of_mem hv]
   exact ⟨lu, p, hat, hup.ok, hp, hget, hout, hin, Fr.refl _ _⟩
  obtain ⟨lu1, p1, a1, a2, a3, a4, a5, a6, a7⟩ := I0
  refine lIn (fun q : Int × Mem => ∃ lu p, ClAt R q.2 lu ls ld lk lz lf ∧ MapOk IntKey lu ∧ UF p c.rep ∧ (∀ n, mget lu (.int .i64 n) = if n ∈ ord K v then some (.int .i64 (p n)) else none) ∧ (∀ n, n ∉ ord K v → p n = n) ∧ (∀ n ∈ ord K v, p n ∈ ord K v) ∧ q.1 ∈ ord K v ∧ c.rep q.1 = c.rep v ∧ Fr [R.u] h q.2)
   (fun (w, h') => ⟨[(0, .val (.pointer (some ⟨R.c, 0, none⟩))), (1, .val (.int .i64 w))], [], 0, μ, h'⟩) (fun q => (q.1 - c.rep q.1).toNat)
   (v, _) ⟨lu1, p1, a1, a2, a3, a4, a5, a6, (ord_mem _ _ _).2 (.inl rfl), rfl, a7⟩ (fun (_, _) => ⟨rfl, rfl⟩) ⟨⟨rfl, rfl, trivial⟩, trivial, rfl, rfl⟩ ?_
  clear a1 a2 a3 a4 a5 a6 a7
  rintro ⟨w, h1⟩ ⟨lu2, p2, a1, a2, a3, a4, a5, a6, a7, a8, a9⟩
  dsimp only at a1 a7 a8 a9
  refine oIn [.map (some R.u)] rfl (fld_at a1.c rfl) ?_
  refine look_intro lu2 (some (.int .i64 (p2 w))) a1.u (a2.weaken (by rintro _ ⟨n, rfl⟩; rfl)) rfl (by rw [a4, if_pos a7]) ?_
  refine ifnd (fun hne => ?_) (fun heq => ?_)
  ·have hw1 := a6 w a7
   have hw2 := a6 _ hw1
   have l1 := a3.le w
   have l2 := a3.le (p2 w)
   have l3 := hle (p2 (p2 w))
   have e3 : c.rep (p2 (p2 w)) = c.rep w := by rw [a3.up, a3.up]
   refine oIn [.map (some R.u)] rfl (fld_at a1.c rfl) ?_
   refine oIn [.map (some R.u)] rfl (fld_at a1.c rfl) ?_
   refine oIn [.map (some R.u)] rfl (fld_at a1.c rfl) ?_
   refine look_intro lu2 (some (.int .i64 (p2 w))) a1.u (a2.weaken (by rintro _ ⟨n, rfl⟩; rfl)) rfl (by rw [a4, if_pos a7]) ?_
   refine look_intro lu2 (some (.int .i64 (p2 (p2 w)))) a1.u (a2.weaken (by rintro _ ⟨n, rfl⟩; rfl)) rfl (by rw [a4, if_pos hw1]) ?_
   refine upd_intro lu2 a1.u (a2.weaken (by rintro _ ⟨n, rfl⟩; rfl)) rfl ?_
   have b1 := a1.setU (l := mset lu2 (.int .i64 w) (.int .i64 (p2 (p2 w))))
   refine oIn [.map (some R.u)] rfl (fld_at b1.c rfl) ?_
   refine look_intro _ (some (.int .i64 (p2 (p2 w)))) b1.u ((a2.int _).weaken (by rintro _ ⟨n, rfl⟩; rfl)) rfl (by rw [mget_int, if_pos rfl]) ?_
   refine ⟨(p2 (p2 w), _), ⟨_, _, b1, a2.int _, a3.halve w, fun n => ?_, fun n hn => ?_, fun n hn => ?_, hw2, e3.trans a8, a9.trans (Fr.set (by simp))⟩, ?_, ⟨⟨rfl, rfl, trivial⟩, trivial, rfl, rfl⟩⟩
   ·rw [mget_int, a4]
    by_cases e : n = w
    ·subst e; rw [if_pos rfl, if_pos a7, if_pos rfl]
    ·rw [if_neg e, if_neg e]
   ·rw [if_neg (fun e => hn (by rw [e]; exact a7))]; exact a5 n hn
   ·split
    ·exact hw2
    ·exact a6 n hn
   ·dsimp only
    omega
  ·refine rPl ⟨?_, rfl, ⟨lu2, ls, ld, a1, ⟨a2, p2, a3, a4, a5, a6⟩, hs, hd, hsh⟩, a9⟩
   rw [← a8, a3.top w (by omega)]
 ·refine look_intro lu none hat.u (hup.ok.weaken (by rintro _ ⟨n, rfl⟩; rfl)) rfl (by rw [hget, if_neg hv]) ?_
  refine iIn (fun _ => ?_) (fun h => nomatch h)
  refine oIn [.map (some R.u)] rfl (fld_at hat.c rfl) ?_
  refine upd_intro lu hat.u (hup.ok.weaken (by rintro _ ⟨n, rfl⟩; rfl)) rfl ?_
  have ev : p v = v := hout v hv
  have I0 : ∃ lu' p, ClAt R (h.set R.u (mapO (mset lu (.int .i64 v) (.int .i64 v)))) lu' ls ld lk lz lf ∧ MapOk IntKey lu' ∧ UF p c.rep ∧ (∀ n, mget lu' (.int .i64 n) = if n ∈ ord K v then some (.int .i64 (p n)) else none) ∧ (∀ n, n ∉ ord K v → p n = n) ∧ (∀ n ∈ ord K v, p n ∈ ord K v) ∧ Fr [R.u] h (h.set R.u (mapO (mset lu (.int .i64 v) (.int .i64 v)))) := by
   refine ⟨_, p, hat.setU, hup.ok.int _, hp, fun n => ?_, fun n hn => hout n fun k => hn ((ord_mem _ _ _).2 (.inr k)), fun n hn => ?_, Fr.set (by simp)⟩
   ·rw [mget_int, hget]
    by_cases e : n = v
    ·subst e; rw [if_pos rfl, if_pos ((ord_mem _ _ _).2 (.inl rfl)), ev]
    ·rw [if_neg e]
     by_cases k : n ∈ K
     ·rw [if_pos k, if_pos ((ord_mem _ _ _).2 (.inr k))]
     ·rw [if_neg k, if_neg (fun k2 => ((ord_mem _ _ _).1 k2).elim e k)]
   ·rcases (ord_mem _ _ _).1 hn with e | k
    ·subst e; rw [ev]; exact hn
    ·exact (ord_mem _ _ _).2 (.inr (hin n k))
  obtain ⟨lu1, p1, a1, a2, a3, a4, a5, a6, a7⟩ := I0
  refine lIn (fun q : Int × Mem => ∃ lu p, ClAt R q.2 lu ls ld lk lz lf ∧ MapOk IntKey lu ∧ UF p c.rep ∧ (∀ n, mget lu (.int .i64 n) = if n ∈ ord K v then some (.int .i64 (p n)) else none) ∧ (∀ n, n ∉ ord K v → p n = n) ∧ (∀ n ∈ ord K v, p n ∈ ord K v) ∧ q.1 ∈ ord K v ∧ c.rep q.1 = c.rep v ∧ Fr [R.u] h q.2)
   (fun (w, h') => ⟨[(0, .val (.pointer (some ⟨R.c, 0, none⟩))), (1, .val (.int .i64 w))], [], 0, μ, h'⟩) (fun q => (q.1 - c.rep q.1).toNat)
   (v, _) ⟨lu1, p1, a1, a2, a3, a4, a5, a6, (ord_mem _ _ _).2 (.inl rfl), rfl, a7⟩ (fun (_, _) => ⟨rfl, rfl⟩) ⟨⟨rfl, rfl, trivial⟩, trivial, rfl, rfl⟩ ?_
  clear a1 a2 a3 a4 a5 a6 a7
  rintro ⟨w, h1⟩ ⟨lu2, p2, a1, a2, a3, a4, a5, a6, a7, a8, a9⟩
  dsimp only at a1 a7 a8 a9
  refine oIn [.map (some R.u)] rfl (fld_at a1.c rfl) ?_
  refine look_intro lu2 (some (.int .i64 (p2 w))) a1.u (a2.weaken (by rintro _ ⟨n, rfl⟩; rfl)) rfl (by rw [a4, if_pos a7]) ?_
  refine ifnd (fun hne => ?_) (fun heq => ?_)
  ·have hw1 := a6 w a7
   have hw2 := a6 _ hw1
   have l1 := a3.le w
   have l2 := a3.le (p2 w)
   have l3 := hle (p2 (p2 w))
   have e3 : c.rep (p2 (p2 w)) = c.rep w := by rw [a3.up, a3.up]
   refine oIn [.map (some R.u)] rfl (fld_at a1.c rfl) ?_
   refine oIn [.map (some R.u)] rfl (fld_at a1.c rfl) ?_
   refine oIn [.map (some R.u)] rfl (fld_at a1.c rfl) ?_
   refine look_intro lu2 (some (.int .i64 (p2 w))) a1.u (a2.weaken (by rintro _ ⟨n, rfl⟩; rfl)) rfl (by rw [a4, if_pos a7]) ?_
   refine look_intro lu2 (some (.int .i64 (p2 (p2 w)))) a1.u (a2.weaken (by rintro _ ⟨n, rfl⟩; rfl)) rfl (by rw [a4, if_pos hw1]) ?_
   refine upd_intro lu2 a1.u (a2.weaken (by rintro _ ⟨n, rfl⟩; rfl)) rfl ?_
   have b1 := a1.setU (l := mset lu2 (.int .i64 w) (.int .i64 (p2 (p2 w))))
   refine oIn [.map (some R.u)] rfl (fld_at b1.c rfl) ?_
   refine look_intro _ (some (.int .i64 (p2 (p2 w)))) b1.u ((a2.int _).weaken (by rintro _ ⟨n, rfl⟩; rfl)) rfl (by rw [mget_int, if_pos rfl]) ?_
   refine ⟨(p2 (p2 w), _), ⟨_, _, b1, a2.int _, a3.halve w, fun n => ?_, fun n hn => ?_, fun n hn => ?_, hw2, e3.trans a8, a9.trans (Fr.set (by simp))⟩, ?_, ⟨⟨rfl, rfl, trivial⟩, trivial, rfl, rfl⟩⟩
   ·rw [mget_int, a4]
    by_cases e : n = w
    ·subst e; rw [if_pos rfl, if_pos a7, if_pos rfl]
    ·rw [if_neg e, if_neg e]
   ·rw [if_neg (fun e => hn (by rw [e]; exact a7))]; exact a5 n hn
   ·split
    ·exact hw2
    ·exact a6 n hn
   ·dsimp only
    omega
  ·refine rPl ⟨?_, rfl, ⟨lu2, ls, ld, a1, ⟨a2, p2, a3, a4, a5, a6⟩, hs, hd, hsh⟩, a9⟩
   rw [← a8, a3.top w (by omega)]
end
end Go.Vx
