/- Texts of the proof, part M3. -/
import Derived.Sort.AssemblyPlain
import Derived.Test.YteomklpfifepdaaM2
namespace Go.Vx
open Go.Proofs Classical
theorem Srt.tail {b : B} {bs : List B} (h : Srt (b :: bs)) : Srt bs := fun i j c d hij hc hd => h (i + 1) (j + 1) c d (by omega) (by simpa using hc) (by simpa using hd)
theorem sub_some : ∀ {bs : List B} (_ : Srt bs) {i : Nat} {b : B} {n : Int}, bs[i]? = some b → b.var = n → sub bs n = some b.to
 | [], _, i, b, n, h, _ => by simp at h
 | c :: bs, hs, 0, b, n, h, e => by
  simp only [List.getElem?_cons_zero, Option.some.injEq] at h
  subst h
  rw [sub, if_pos e]
 | c :: bs, hs, i + 1, b, n, h, e => by
  have := hs 0 (i + 1) c b (by omega) rfl h
  rw [sub, if_neg (by omega)]
  exact sub_some hs.tail (by simpa using h) e
theorem sub_none : ∀ {bs : List B} {n : Int}, (∀ b ∈ bs, b.var ≠ n) → sub bs n = none
 | [], _, _ => rfl
 | c :: bs, n, h => by
  rw [sub, if_neg (h c (by simp))]
  exact sub_none fun b hb => h b (by simp [hb])
theorem sub_ok : ∀ {bs : List B} (_ : ∀ b ∈ bs, b.to.ok) {n : Int} {y : T}, sub bs n = some y → y.ok
 | [], _, n, y, h => by simp [sub] at h
 | c :: bs, hk, n, y, h => by
  rw [sub] at h
  split at h
  ·cases h; exact hk c (by simp)
  ·exact sub_ok (fun b hb => hk b (by simp [hb])) h
theorem valsOk.srt {l : List Bd} (h : valsOk l) : Srt (l.map Bd.b) := by
 intro i j b c hij hb hc
 simp only [List.getElem?_map, Option.map_eq_some_iff] at hb hc
 obtain ⟨b, hb, rfl⟩ := hb
 obtain ⟨c, hc, rfl⟩ := hc
 show b.var < c.var
 induction j generalizing c with
 | zero => omega
 | succ j ih =>
  have hj : j < l.length := by have := (List.getElem?_eq_some_iff.1 hc).1; omega
  have w_ := aSo hj
  obtain ⟨d, hd⟩ := w_
  have h1 := (h.2 (j + 1) c hc).2.2 j d rfl hd
  rcases Nat.lt_or_ge i j with h2 | h2
  ·have := ih h2 d hd; omega
  ·obtain rfl : i = j := by omega
   rw [hb] at hd; cases hd; exact h1
section
variable {μ : Mem}
theorem put1_looks {bs : List B} {base : Option Addr} {cap : Nat} {r : Nat} {ty : TypeId} (hs : Srt bs) (hlen : bs.length ≤ 1000000000) (hsl : Sl μ 5 base bs.length ((bs.map B.bd).map Bd.d)) (h : μ r = some (.cells #[.slice base bs.length cap] ty (0, 0))) :
  Looks 119 [.pointer (some ⟨r, 0, none⟩)] μ (sub bs) := fun μ' hle n => by
 have hsl := hsl.mono hle
 have h : μ' r = _ := hle _ _ h
 refine Spec.mk Try.func119 (by kernel_rfl) ?_
 intro r1
 refine ext_intro [.slice base bs.length cap] rfl (box_at h) ?_
 refine cPl (find_spec hs hlen hsl) fun v μ2 hle2 hR => ?_
 obtain ⟨hR, e2⟩ := hR
 obtain rfl := e2.symm
 rcases hR with ⟨i, b, rfl, hb, hn⟩ | ⟨rfl, hno⟩
 ·rw [sub_some hs hb hn]
  have w_ := B.elem hsl hb
  obtain ⟨ad, p, hel, hto⟩ := w_
  refine ifd (fun _ => ?_) (fun h => absurd h (by omega))
  refine ext_intro [.slice base bs.length cap] rfl (box_at h) ?_
  refine eIn hel ?_
  exact rPl ⟨_, rfl, hto⟩
 ·rw [sub_none hno]
  refine ifd (fun h => absurd h (by omega)) (fun _ => ?_)
  exact rPl rfl
theorem replaced1_counts {Q : Int → Prop} {k : FuncId} {caps : List Value} {f : Int → Option T} {r : Nat} {ty : TypeId} (hk : LooksOn Q k caps μ f) (hf : ∀ n y, Q n → f n = some y → y.ok) (h : μ r = some (.cells #[.func (.func k) #[] caps.toArray] ty (0, 0))) :
  CountsOn Q 149 [.pointer (some ⟨r, 0, none⟩)] μ (cntOf f) := fun n hq => by
 refine (Spec.forget (R := fun v => v = .int .i64 (cntOf f n)) (Spec.mk Try.func149 (by kernel_rfl) ?_))
 refine ext_intro [.func (.func k) #[] caps.toArray] rfl (box_at h) ?_
 refine cPl (hk μ (Mem.Le.refl μ) n hq) fun v μ1 hle1 hR => ?_
 simp only [cntOf]
 cases hs : f n with
 | some y =>
  rw [hs] at hR
  obtain ⟨tv, rfl, htv⟩ := hR
  have w_ := Tm.invV htv
  obtain ⟨q, rfl⟩ := w_
  intro r3
  refine iIn (fun _ => ?_) (fun h => nomatch h)
  refine cGv (nodesOf_spec y.tm htv (by decide) (by decide)) ?_
  have hy := (hf n y hq hs).tm
  rw [Tm.nodes_pos hy.1 (by have := hy.2; omega), T.cnt_tm]
  exact rPl rfl
 | none =>
  rw [hs] at hR
  obtain rfl := hR
  intro r3
  refine iIn (fun h => nomatch h) (fun _ => ?_)
  exact rPl rfl
noncomputable def fit (x : T) : Option T := if x.size ≤ 5000 then some x else none
theorem replaced_specQ {Q : Int → Prop} {k : FuncId} {caps : List Value} {f : Int → Option T} (x : T) {v : Value} (hQ : ∀ n ∈ x.vars, Q n) (hk : LooksOn Q k caps μ f) (hf : ∀ n y, Q n → f n = some y → y.ok) (hv : RepV μ x.tm.d v) :
  Spec Try.prog 118 [v, .func (.func k) #[] caps.toArray] μ fun v μ' => optV (fun y tv => Fresh μ μ' y.tm.d tv) (fit (x.subst f)) v := by
 have w_ := Tm.invV hv
 obtain ⟨p, rfl⟩ := w_
 have hc : ∀ n, Q n → cntOf f n ≤ 5000 := fun n hq => by
  simp only [cntOf]
  split
  ·rename_i y hy
   exact (hf n y hq hy).2
  ·omega
 refine Spec.mk Try.func118 (by kernel_rfl) ?_
 intro r1 r2 r3
 refine call_frz [1] ?_
 intro μ1 hle1 hno1 hat1
 have hk1 : LooksOn Q k caps μ1 f := fun μ' h => hk μ' (hle1.trans h)
 refine call_go (sizeWith_specQ (replaced1_counts hk1 hf hat1) hc x hQ (hv.mono hle1)) fun v μ2 hle2 hR => ?_
 obtain ⟨rfl, e2⟩ := hR
 obtain rfl := e2.symm
 refine ifd (fun h => ?_) (fun h => ?_)
 ·rw [fit, if_neg (by omega)]
  exact rPl rfl
 ·rw [fit, if_pos (by omega)]
  refine ext_intro [.func (.func k) #[] caps.toArray] rfl (box_at hat1) ?_
  refine cPl (mapVars_specQ x hQ hk1 (hv.mono hle1)) fun v2 μ3 hle3 hR3 => ?_
  have w_ := Tm.invV hR3.rep
  obtain ⟨q, rfl⟩ := w_
  exact rPl ⟨_, rfl, hR3.mono hle1 (Mem.Le.refl _)⟩
theorem replaced_spec {k : FuncId} {caps : List Value} {f : Int → Option T} (x : T) {v : Value} (hk : Looks k caps μ f) (hf : ∀ n y, f n = some y → y.ok) (hv : RepV μ x.tm.d v) :
  Spec Try.prog 118 [v, .func (.func k) #[] caps.toArray] μ fun v μ' => optV (fun y tv => Fresh μ μ' y.tm.d tv) (fit (x.subst f)) v :=
 replaced_specQ (Q := fun _ => True) x (fun _ _ => trivial) (fun μ' h n _ => hk μ' h n) (fun n y _ => hf n y) hv
theorem put_spec {bs : List B} {base : Option Addr} {cap : Nat} (x : T) {v : Value} (hs : Srt bs) (hlen : bs.length ≤ 1000000000) (hk : ∀ b ∈ bs, b.to.ok) (hsl : Sl μ 5 base bs.length ((bs.map B.bd).map Bd.d)) (hv : RepV μ x.tm.d v) :
  Spec Try.prog 76 [.slice base bs.length cap, v] μ fun v μ' => optV (fun y tv => Fresh μ μ' y.tm.d tv) (fit (x.subst (sub bs))) v := by
 have w_ := Tm.invV hv
 obtain ⟨p, rfl⟩ := w_
 refine Spec.mk Try.func76 (by kernel_rfl) ?_
 intro r1 r2 r3
 refine call_frz [0] ?_
 intro μ1 hle1 hno1 hat1
 refine call_go (replaced_spec x (put1_looks hs hlen (hsl.mono hle1) hat1) (fun n y h => sub_ok hk h) (hv.mono hle1)) fun v μ2 hle2 hR => ?_
 cases hf : fit (x.subst (sub bs)) with
 | some y =>
  rw [hf] at hR
  obtain ⟨tv, rfl, htv⟩ := hR
  have w_ := Tm.invV htv.rep
  obtain ⟨q, rfl⟩ := w_
  exact rPl ⟨_, rfl, htv.mono hle1 (Mem.Le.refl _)⟩
 | none =>
  rw [hf] at hR
  obtain rfl := hR
  exact rPl rfl
end
end Go.Vx
namespace Go.Vx
open Go.Proofs Classical
def sgn (b : Bool) : Int := if b then -1 else 1
noncomputable def hdCmp (x y : Tm) (rest : Int) : Int :=
 if x.kind ≠ y.kind then sgn (decide (x.kind < y.kind)) else if x.num ≠ y.num then sgn (decide (x.num < y.num)) else if x.name ≠ y.name then sgn (Op.bytesLess x.name.data.toList y.name.data.toList) else rest
noncomputable def T.cmp : T → T → Int
 | .pair a b, .pair c d => if a.cmp c = 0 then b.cmp d else a.cmp c
 | .pair a b, .nil => hdCmp (T.pair a b).tm T.nil.tm 0
 | .pair a b, .var n => hdCmp (T.pair a b).tm (T.var n).tm 0
 | .pair a b, .sym n => hdCmp (T.pair a b).tm (T.sym n).tm 0
 | .pair a b, .num n => hdCmp (T.pair a b).tm (T.num n).tm 0
 | .nil, y => hdCmp T.nil.tm y.tm 0
 | .var n, y => hdCmp (T.var n).tm y.tm 0
 | .sym n, y => hdCmp (T.sym n).tm y.tm 0
 | .num n, y => hdCmp (T.num n).tm y.tm 0
theorem sgn_ne (b : Bool) : sgn b ≠ 0 := by cases b <;> simp [sgn]
theorem hdCmp_zero {x y : Tm} {r : Int} : hdCmp x y r = 0 ↔ x.kind = y.kind ∧ x.num = y.num ∧ x.name = y.name ∧ r = 0 := by
 unfold hdCmp
 split
 ·rename_i h; exact ⟨fun k => absurd k (sgn_ne _), fun k => absurd k.1 h⟩
 ·split
  ·rename_i h; exact ⟨fun k => absurd k (sgn_ne _), fun k => absurd k.2.1 h⟩
  ·split
   ·rename_i h; exact ⟨fun k => absurd k (sgn_ne _), fun k => absurd k.2.2.1 h⟩
   ·rename_i h1 h2 h3
    exact ⟨fun k => ⟨Classical.not_not.1 h1, Classical.not_not.1 h2, Classical.not_not.1 h3, k⟩, fun k => k.2.2.2⟩
theorem T.cmp_zero : ∀ x y : T, x.cmp y = 0 ↔ x = y := by
 intro x
 induction x with
 | pair a b iha ihb =>
  intro y
  cases y with
  | pair c d =>
   rw [T.cmp, T.pair.injEq, ← iha, ← ihb]
   split
   ·rename_i h; exact ⟨fun k => ⟨h, k⟩, fun k => k.2⟩
   ·rename_i h; exact ⟨fun k => absurd k h, fun k => absurd k.1 h⟩
  | _ => rw [T.cmp, hdCmp_zero]; simp [T.tm, Tm.kind]
 | _ =>
  intro y
  rw [T.cmp, hdCmp_zero]
  cases y <;> simp [T.tm, Tm.kind, Tm.num, Tm.name]
theorem hd2 {x y : Tm} {r : Int} (h1 : x.kind = y.kind) (h : ¬ x.num = y.num) : hdCmp x y r = sgn (decide (x.num < y.num)) := by rw [hdCmp, if_neg (fun k => k h1), if_pos h]
theorem hd4 {x y : Tm} {r : Int} (h1 : x.kind = y.kind) (h2 : x.num = y.num) (h : x.name = y.name) : hdCmp x y r = r := by rw [hdCmp, if_neg (fun k => k h1), if_neg (fun k => k h2), if_neg (fun k => k h)]
section
variable {μ : Mem}
noncomputable def T.rest : T → T → Int
 | .pair a b, .pair c d => if a.cmp c = 0 then b.cmp d else a.cmp c
 | _, _ => 0
theorem T.cmp_eq (x y : T) : x.cmp y = hdCmp x.tm y.tm (x.rest y) := by
 cases x with
 | pair a b =>
  cases y with
  | pair c d => rw [T.cmp, hd4 (x := (T.pair a b).tm) (y := (T.pair c d).tm) rfl rfl rfl]; rfl
  | _ => rw [T.cmp]; rfl
 | _ => rw [T.cmp]; rfl
def varV (n : Int) : Value := .agg #[.int .i64 1, .int .i64 n, .string ⟨#[]⟩, .slice none 0 0]
theorem varV_own (n : Int) : OwnV (T.var n).tm.d Mem.nil (varV n) := by
 rw [T.d_eq]
 exact ⟨_, rfl, OwnS.int (OwnS.int (OwnS.str (OwnS.last (Own.nilSl 4))))⟩
theorem varV_rep (n : Int) : RepV μ (T.var n).tm.d (varV n) := (varV_own n).rep (fun _ _ h => nomatch h)
theorem variable_spec (n : Int) : Gives Try.prog 77 [.int .i64 n] μ (varV n) := by
 refine Spec.mk Try.func77 (by kernel_rfl) ?_
 intro r1
 exact rGv rfl rfl
theorem l02Var_spec (n : Int) : Gives Try.prog 102 [.int .i64 n] μ (varV n) := by
 refine Spec.mk Try.func102 (by kernel_rfl) ?_
 intro r1
 exact rGv rfl rfl
end
end Go.Vx
namespace Go.Vx
open Go.Proofs Classical
def bndOk (bs : List B) (b : B) : Prop := ¬ (b.to.tm.kind = 1 ∧ b.var ≤ b.to.tm.num) ∧ ∀ n ∈ b.to.vars, sub bs n = none
def substOk (l : List Bd) : Prop := valsOk l ∧ ∀ b ∈ l.map Bd.b, bndOk (l.map Bd.b) b
theorem B.bd_b (b : B) : b.bd.b = b := by
 cases b; simp [B.bd, Bd.b, T.toT_tm]
theorem B.map_b (bs : List B) : (bs.map B.bd).map Bd.b = bs := by
 rw [List.map_map]
 conv => rhs; rw [← List.map_id bs]
 exact List.map_congr_left fun b _ => B.bd_b b
structure Vals (bs : List B) : Prop where
 ok : valsOk (bs.map B.bd)
theorem Vals.len {bs : List B} (h : Vals bs) : bs.length ≤ 400 := by have := h.ok.1; simpa using this
theorem Vals.srt {bs : List B} (h : Vals bs) : Srt bs := by have := h.ok.srt; rwa [B.map_b] at this
theorem Vals.tok {bs : List B} (h : Vals bs) : ∀ b ∈ bs, b.to.ok := by have := h.ok.lift.2; rwa [B.map_b] at this
theorem Vals.var {bs : List B} (h : Vals bs) : ∀ b ∈ bs, 0 ≤ b.var ∧ b.var ≤ 100000 := fun b hb => by
 have w_ := List.mem_iff_getElem?.1 hb
 obtain ⟨i, hi⟩ := w_
 exact (h.ok.2 i b.bd (by simp [hi])).1
theorem valsOk.vals {l : List Bd} (h : valsOk l) : ∃ bs : List B, l = bs.map B.bd ∧ Vals bs := ⟨l.map Bd.b, h.lift.1.symm, ⟨by rw [h.lift.1]; exact h⟩⟩
structure Subst (bs : List B) : Prop where
 vals : Vals bs
 bnd : ∀ b ∈ bs, bndOk bs b
theorem substOk_iff (bs : List B) : substOk (bs.map B.bd) ↔ Subst bs := by
 unfold substOk
 rw [B.map_b]
 exact ⟨fun h => ⟨⟨h.1⟩, h.2⟩, fun h => ⟨h.1.1, h.2⟩⟩
theorem substOk.subst {l : List Bd} (h : substOk l) : ∃ bs : List B, l = bs.map B.bd ∧ Subst bs := by
 obtain ⟨bs, rfl, _⟩ := h.1.vals
 exact ⟨bs, rfl, (substOk_iff bs).1 h⟩
section
variable {μ : Mem}
def boolOn (H : Mem) (r : Nat) (b : Bool) : Mem := H.set r (.cells #[.bool b] 4 (0, 0))
noncomputable def unbound (bs : List B) (f : Bool) (n : Int) : Bool := if sub bs n = none then f else false
theorem SubstOk1_spec {bs : List B} {base : Option Addr} {cap : Nat} {H : Mem} {r1 : Nat} {t1 : TypeId} (r : Nat) (b : Bool) (n : Int) (hs : Srt bs) (hlen : bs.length ≤ 1000000000) (hsl : Sl μ 5 base bs.length ((bs.map B.bd).map Bd.d)) (h1 : μ r1 = some (.cells #[.slice base bs.length cap] t1 (0, 0))) :
  SpecH Try.prog 64 [.int .i64 n, .pointer (some ⟨r1, 0, none⟩), .pointer (some ⟨r, 0, none⟩)] μ (boolOn H r b) fun v μ' h' => v = .tuple #[] ∧ μ' = μ ∧ h' = boolOn H r (unbound bs b n) := by
 refine SpecH.mk [] Try.func64 (by kernel_rfl) ?_
 refine ext_intro [.slice base bs.length cap] rfl (box_at h1) ?_
 refine cPl (find_spec hs hlen hsl) fun v μ2 hle2 hR => ?_
 obtain ⟨hR, e2⟩ := hR
 obtain rfl := e2.symm
 rcases hR with ⟨i, c, rfl, hc, hn⟩ | ⟨rfl, hno⟩
 ·refine ifd (fun _ => ?_) (fun h => absurd h (by omega))
  refine sIn (h := boolOn H r b) (a := ⟨r, 0, none⟩) [.bool b] 4 (set_self _ _ _) rfl ?_ ?_
  ·exact Nat.le_refl _
  have e : sub bs n ≠ none := by rw [sub_some hs hc hn]; exact fun h => nomatch h
  exact rPl ⟨rfl, rfl, by rw [unbound, if_neg e]; exact Mem.set_set _ _ _ _⟩
 ·refine ifd (fun h => absurd h (by omega)) (fun _ => ?_)
  exact rPl ⟨rfl, rfl, by rw [unbound, if_pos (sub_none hno)]⟩
theorem unbound_all (bs : List B) : ∀ (l : List Int) (f : Bool), l.foldl (unbound bs) f = (f && decide (∀ n ∈ l, sub bs n = none))
 | [], f => by simp
 | n :: l, f => by
  rw [List.foldl_cons, unbound_all bs l, unbound]
  by_cases h : sub bs n = none <;> simp [h]
theorem impl_SubstOk_spec {l : List Bd} {base : Option Addr} {cap : Nat} (hsl : Sl μ 5 base l.length (l.map Bd.d)) : Gives Try.prog 18 [.slice base l.length cap] μ (.bool (decide (substOk l))) := by
 refine Spec.forget (Spec.mkO [5] Try.func18 (by kernel_rfl) ?_)
 intro r1
 refine call_frz [0] ?_
 intro μ1 hle1 hno1 hat1
 refine call_go (impl_ValuesOk_spec (hsl.mono hle1)) fun v μ2 hle2 hR => ?_
 obtain ⟨rfl, e2⟩ := hR
 obtain rfl := e2.symm
 refine ifnd (fun h => rPl (isF fun k => h k.1)) (fun hv => ?_)
 obtain ⟨bs, rfl, hbs⟩ := hv.vals
 rw [List.length_map] at hsl hat1 ⊢
 have hn := hbs.len
 have hsl1 := hsl.mono hle1
 refine ext_intro [.slice base bs.length cap] rfl (box_at hat1) ?_
 refine lIn (fun p : Nat × Mem => p.1 ≤ bs.length ∧ ∀ (j : Nat) b, j < p.1 → bs[j]? = some b → bndOk bs b)
  (fun (i, H) => ⟨[(1, .loc 0 r1 0), (9, .val (.slice base bs.length cap)), (10, .val (.int .i64 bs.length)), (11, .val (.int .i64 i))], [], 1, μ1, H⟩) (fun p => bs.length - p.1)
  (0, Mem.nil) ⟨by simp, fun j b hj => by simp at hj⟩ (fun (_, _) => ⟨rfl, rfl⟩) ⟨⟨rfl, rfl, rfl, rfl, trivial⟩, trivial, rfl, rfl⟩ ?_
 rintro ⟨i, H⟩ ⟨hi, hall⟩
 dsimp only at hi hall
 refine ifd (fun h => ?_) (fun h => ?_)
 ·have w_ := aSo (l := bs) (i := i) (by omega)
  obtain ⟨b, hb⟩ := w_
  have w_ := B.elem hsl1 hb
  obtain ⟨ad, p, hel, hto⟩ := w_
  have bad : ¬ bndOk bs b → Value.bool false = .bool (decide (substOk (bs.map B.bd))) := fun k => isF fun hs => k (((substOk_iff bs).1 hs).bnd b (mAt hb))
  refine eIn hel ?_
  intro r r5 hm5 ho5
  refine sIn [.bool false] 4 (set_self _ _ _) rfl ?_ ?_
  ·exact Nat.le_refl _
  have e : ((H.set r5 (.cells #[.bool false] 4 (0, 0))).set r5 (.cells #[.bool true] 4 (0, 0))) = boolOn H r5 true := Mem.set_set _ _ _ _
  refine cOw (R := fun r μ' h' => r = .tuple #[] ∧ μ' = μ1 ∧ h' = boolOn H r5 (b.to.vars.foldl (unbound bs) true)) ?_ fun v μ' h' hle hap hR => ?_
  ·have := eachVar_spec (μ := μ1) (boolOn H r5) (unbound bs) (Q := fun _ => True) (fun s n _ => SubstOk1_spec (H := H) r5 s n hbs.srt (by omega) hsl1 hat1) b.to true hto (fun _ _ => trivial)
   rw [← e] at this
   exact this
  obtain ⟨rfl, e4, rfl⟩ := hR
  obtain rfl := e4.symm
  rw [unbound_all, Bool.true_and]
  refine oIn [.bool (decide (∀ n ∈ b.to.vars, sub bs n = none))] rfl (fun j v hj => ?_) ?_
  ·match j, hj with
   | 0, hj => cases hj; simp [boolOn, Mem.cell, Addr.add_lit', set_self]
  have fin : bndOk bs b → ∀ (j : Nat) c, j < i + 1 → bs[j]? = some c → bndOk bs c := fun hok j c hj hc => by
   rcases Nat.lt_or_ge j i with h6 | h6
   ·exact hall j c h6 hc
   ·obtain rfl : j = i := by omega
    rw [hb] at hc; cases hc; exact hok
  refine ifnd (fun h1 => rPl (bad fun k => h1 k.2)) (fun h1 => ?_)
  refine ifd (fun h2 => ?_) (fun h2 => ?_)
  ·refine ifd (fun h3 => rPl (bad fun k => k.1 ⟨h2, h3⟩)) (fun h3 => ?_)
   exact num64 (by omega) (by omega) ⟨(i + 1, _), ⟨by dsimp only; omega, fin ⟨fun k => h3 k.2, h1⟩⟩, by dsimp only; omega, ⟨⟨rfl, rfl, rfl, rfl, trivial⟩, trivial, rfl, rfl⟩⟩
  ·exact num64 (by omega) (by omega) ⟨(i + 1, _), ⟨by dsimp only; omega, fin ⟨fun k => h2 k.1, h1⟩⟩, by dsimp only; omega, ⟨⟨rfl, rfl, rfl, rfl, trivial⟩, trivial, rfl, rfl⟩⟩
 ·obtain rfl : i = bs.length := by omega
  exact rPl (isT ((substOk_iff bs).2 ⟨hbs, fun b hb => by
   have w_ := List.mem_iff_getElem?.1 hb
   obtain ⟨j, hj⟩ := w_
   exact hall j b (List.getElem?_eq_some_iff.1 hj).1 hj⟩))
end
end Go.Vx
namespace Go.Vx
open Go.Proofs Classical
theorem fit_some {x y : T} : fit x = some y ↔ x.size ≤ 5000 ∧ x = y := by
 unfold fit
 split
 ·rename_i h; exact ⟨fun k => ⟨h, Option.some.inj k⟩, fun k => by rw [k.2]⟩
 ·rename_i h; exact ⟨fun k => (nomatch k), fun k => absurd k.1 h⟩
section
variable {μ : Mem}
end
end Go.Vx
namespace Go.Vx
open Go.Proofs Classical
section
variable {P : Program} {f : FuncId} {args : List Value} {μ h H : Mem}
theorem Mem.set_at (m : Mem) (r : Nat) (o : Obj) : (m.set r o) r = some o := by rw [Mem.set_get, if_pos rfl]
theorem Mem.set_ne {m : Mem} {b r : Nat} {o : Obj} (h : b ≠ r) : (m.set r o) b = m b := by rw [Mem.set_get, if_neg h]
theorem Apart.set {r : Nat} {o : Obj} (k : Apart μ h) (hr : μ r = none) : Apart μ (h.set r o) := fun b hb => by
 by_cases e : b = r
 ·subst e; exact absurd hr hb
 ·rw [Mem.set_ne e]; exact k b hb
theorem RowO.set_ne {r cap b : Nat} {ty : TypeId} {es : Nat} {xs : List Value} {o : Obj} (k : RowO h r cap ty es xs) (hb : r ≠ b) : RowO (h.set b o) r cap ty es xs := by
 obtain ⟨cs, h1, h2⟩ := k
 exact ⟨cs, by rw [Mem.set_ne hb]; exact h1, h2⟩
theorem RowO.rowAt {r cap : Nat} {ty : TypeId} {es : Nat} {xs : List Value} (k : RowO h r cap ty es xs) (hl : h.Le μ) : RowAt μ (some r) cap es xs := by
 obtain ⟨cs, h1, h2, h3, h4, h5, h6⟩ := k
 exact ⟨h2, h4, cs.toArray, ty, hl _ _ h1, by simpa using h5, by simpa using h6⟩
theorem RowO.len {r cap : Nat} {ty : TypeId} {es : Nat} {xs : List Value} (k : RowO h r cap ty es xs) : xs.length ≤ maxLen := by
 obtain ⟨cs, h1, h2, h3, _⟩ := k
 exact h3
theorem RowO.rep {r cap : Nat} {ty : TypeId} {es : Nat} {xs : List Value} {ds : List D} (k : RowO h r cap ty es xs) (hl : h.Le μ) (hr : Rows μ es ds xs) : RepV μ (.sl es ds) (.slice (some ⟨r, 0, none⟩) xs.length cap) :=
 Rows.sl (k.rowAt hl) hr k.len
def IntKey (v : Value) : Prop := ∃ n, v = .int .i64 n
theorem MapOk.weaken {ok ok' : Value → Prop} {l : List (Value × Value)} (k : MapOk ok l) (hk : ∀ v, ok v → ok' v) : MapOk ok' l := ⟨fun p hp => hk _ (k.keys p hp), k.nodup⟩
theorem MapOk.int {l : List (Value × Value)} (k : MapOk IntKey l) {n : Int} (v : Value) : MapOk IntKey (mset l (.int .i64 n) v) := k.set ⟨n, rfl⟩ v
theorem mget_int (l : List (Value × Value)) (n m : Int) (v : Value) : mget (mset l (.int .i64 n) v) (.int .i64 m) = if m = n then some v else mget l (.int .i64 m) := by
 rw [mget_mset]
 by_cases e : m = n
 ·subst e; rw [if_pos rfl, if_pos rfl]
 ·rw [if_neg e, if_neg (by simp [e])]
def Grown (es : Nat) (μ μ' : Mem) (ds : List D) (ys : List Value) : Prop := ∃ g, OwnRows es ds ys g ∧ g.Le μ' ∧ ∀ b, g b ≠ none → μ b = none
theorem Grown.nil (es : Nat) (μ μ' : Mem) : Grown es μ μ' [] [] := ⟨Mem.nil, OwnRows.nil es, (fun _ _ h => nomatch h), fun _ h => absurd rfl h⟩
theorem Grown.snoc {es : Nat} {μ μ' μ'' : Mem} {ds : List D} {ys : List Value} {d : D} {v : Value} (k : Grown es μ μ' ds ys) (h0 : μ.Le μ') (hv : Fresh μ' μ'' d v) (h1 : μ'.Le μ'') (hn : d.n = es) : Grown es μ μ'' (ds ++ [d]) (ys ++ [v]) := by
 obtain ⟨g, a, b, c⟩ := k
 obtain ⟨g', a', b', c'⟩ := hv
 refine ⟨g.join g', a.snoc a' hn (fresh_apart b c'), join_le (b.trans h1) b', fun x hx => ?_⟩
 rcases join_ne hx with h | h
 ·exact c x h
 ·have h3 := c' x h
  cases h4 : μ x with
  | none => rfl
  | some o => rw [h0 x o h4] at h3; cases h3
theorem Grown.mono {es : Nat} {μ μ' μ'' : Mem} {ds : List D} {ys : List Value} (k : Grown es μ μ' ds ys) (h : μ'.Le μ'') : Grown es μ μ'' ds ys := by
 obtain ⟨g, a, b, c⟩ := k
 exact ⟨g, a, b.trans h, c⟩
theorem Grown.len {es : Nat} {μ μ' : Mem} {ds : List D} {ys : List Value} (k : Grown es μ μ' ds ys) : ds.length = ys.length := by
 obtain ⟨g, a, _⟩ := k
 exact a.len
theorem Grown.fresh {es : Nat} {μ μ1 μ' : Mem} {b : Option Nat} {cap : Nat} {ds : List D} {ys : List Value} (k : Grown es μ μ1 ds ys) (h0 : μ.Le μ1) (h1 : μ1.Le μ') (hb : ∀ r, b = some r → μ1 r = none) (hr : RowAt μ' b cap es ys) (hm : ys.length ≤ maxLen) :
  Fresh μ μ' (.sl es ds) (.slice (b.map fun r => ⟨r, 0, none⟩) ys.length cap) := by
 obtain ⟨g, a, b', c⟩ := k
 exact Fresh.ofRow a b' c h0 h1 hb hr hm
variable {dr : Bool} {s : St} {K : Value → St → Prop}
end
section
variable {μ : Mem}
end
end Go.Vx
namespace Go.Vx
open Go.Proofs Classical
section
variable {μ : Mem}
theorem Rep.val : ∀ {d : D} {c : List Value}, Rep μ d c → ∃ v, RepV μ d v ∧ vcells v = c
 | .st fs, c, h => ⟨.agg c.toArray, ⟨c, rfl, h⟩, by simp [vcells]⟩
 | .i n, c, h => by
  have h2 : c = [.int .i64 n] := h
  subst h2; exact ⟨_, h, rfl⟩
 | .b x, c, h => by
  have h2 : c = [.bool x] := h
  subst h2; exact ⟨_, h, rfl⟩
 | .s x, c, h => by
  have h2 : c = [.string x] := h
  subst h2; exact ⟨_, h, rfl⟩
 | .sl es xs, c, h => by
  obtain ⟨base, cap, h1, h2⟩ := h
  subst h1
  exact ⟨_, ⟨base, cap, rfl, h2⟩, rfl⟩
theorem RepS.rows {es : Nat} : ∀ {l : List D} {flat : List Value}, RepS μ l flat → (∀ x ∈ l, x.n = es) → ∃ vs, Rows μ es l vs ∧ vs.flatMap vcells = flat
 | [], flat, h, _ => by
  have h : flat = [] := h
  subst h; exact ⟨[], .nil, rfl⟩
 | d :: l, flat, h, hn => by
  obtain ⟨c1, c2, rfl, h1, h2⟩ := h
  have w_ := Rep.val h1
  obtain ⟨v, hv, rfl⟩ := w_
  have w_ := RepS.rows h2 fun x hx => hn x (by simp [hx])
  obtain ⟨vs, hr, rfl⟩ := w_
  exact ⟨v :: vs, .cons hv (hn d (by simp)) hr, by simp⟩
theorem Rows.take {es : Nat} : ∀ {ds : List D} {vs : List Value} (k : Nat), Rows μ es ds vs → Rows μ es (ds.take k) (vs.take k)
 | _, _, 0, _ => by simpa using Rows.nil
 | _, _, k + 1, .nil => by simpa using Rows.nil
 | _, _, k + 1, .cons h hn r => by simpa using Rows.cons h hn (r.take k)
theorem Rows.drop {es : Nat} : ∀ {ds : List D} {vs : List Value} (k : Nat), Rows μ es ds vs → Rows μ es (ds.drop k) (vs.drop k)
 | _, _, 0, h => by simpa using h
 | _, _, k + 1, .nil => by simpa using Rows.nil
 | _, _, k + 1, .cons h hn r => by simpa using r.drop k
theorem Rows.size {es : Nat} : ∀ {ds : List D} {vs : List Value}, Rows μ es ds vs → ∀ v ∈ vs, (vcells v).length = es ∧ ∀ u ∈ vcells v, u.oneCell' = true
 | _, _, .nil, v, hv => by simp at hv
 | _, _, .cons h hn r, v, hv => by
  rcases List.mem_cons.1 hv with rfl | hv
  ·exact ⟨by rw [Rep.len _ _ h.cells]; exact hn, Rep.one _ _ h.cells⟩
  ·exact r.size v hv
def insAt {α : Type} (l : List α) (x : α) (k : Nat) : List α := l.take k ++ ([x] ++ l.drop k)
theorem insAt_mem {α : Type} (l : List α) (x y : α) (k : Nat) : y ∈ insAt l x k ↔ y = x ∨ y ∈ l := by
 have h2 : y ∈ l ↔ y ∈ l.take k ∨ y ∈ l.drop k := by rw [← List.mem_append, List.take_append_drop]
 simp only [insAt, List.mem_append, List.mem_singleton, h2]
 constructor
 ·rintro (h | h | h) <;> simp [h]
 ·rintro (h | h | h) <;> simp [h]
theorem sub_append (a c : List B) (n : Int) : sub (a ++ c) n = (sub a n).or (sub c n) := by
 induction a with
 | nil => simp [sub]
 | cons b a ih =>
  simp only [List.cons_append, sub]
  split
  ·simp
  ·exact ih
theorem nodup_range {N : Nat} : ∀ {l : List Int}, l.Nodup → (∀ n ∈ l, 0 ≤ n ∧ n < N) → l.length ≤ N := by
 induction N with
 | zero =>
  intro l _ h
  cases l with
  | nil => simp
  | cons a l => have := h a (by simp); omega
 | succ N ih =>
  intro l hn h
  have h1 := ih (l := l.erase (N : Int)) (hn.erase _) fun n hm => by
   rw [hn.mem_erase_iff] at hm
   have := h n hm.2
   have h2 : n ≠ (N : Int) := hm.1
   omega
  have h2 : l.length ≤ (l.erase (N : Int)).length + 1 := by
   rw [List.length_erase]; split <;> omega
  omega
end
end Go.Vx
namespace Go.Vx
open Go.Proofs Classical
abbrev Tm.P := Option Addr × Nat
abbrev Bd.P := Option Addr × Nat
section
variable {μ : Mem}
theorem Bd.d_eq (b : Bd) : b.d = .st [.i b.var, b.to.d] := rfl
def FreshS (μ μ' : Mem) (ds : List D) (cs : List Value) : Prop := ∃ g : Mem, OwnS ds g cs ∧ g.Le μ' ∧ ∀ b, g b ≠ none → μ b = none
variable {μ1 μ' : Mem}
theorem FreshS.nil : FreshS μ μ' [] [] := ⟨Mem.nil, ⟨rfl, rfl⟩, (fun _ _ h => nomatch h), fun _ h => absurd rfl h⟩
theorem FreshS.int {n : Int} {ds : List D} {cs : List Value} (k : FreshS μ μ' ds cs) : FreshS μ μ' (.i n :: ds) (.int .i64 n :: cs) := by
 obtain ⟨g, a, b, c⟩ := k
 exact ⟨g, OwnS.int a, b, c⟩
theorem FreshS.bool {n : Bool} {ds : List D} {cs : List Value} (k : FreshS μ μ' ds cs) : FreshS μ μ' (.b n :: ds) (.bool n :: cs) := by
 obtain ⟨g, a, b, c⟩ := k
 exact ⟨g, OwnS.bool a, b, c⟩
theorem FreshS.str {n : ByteArray} {ds : List D} {cs : List Value} (k : FreshS μ μ' ds cs) : FreshS μ μ' (.s n :: ds) (.string n :: cs) := by
 obtain ⟨g, a, b, c⟩ := k
 exact ⟨g, OwnS.str a, b, c⟩
theorem FreshS.cons {d : D} {v : Value} {ds : List D} {cs : List Value} (k1 : Fresh μ μ1 d v) (h1 : μ.Le μ1) (h2 : μ1.Le μ') (k : FreshS μ1 μ' ds cs) : FreshS μ μ' (d :: ds) (vcells v ++ cs) := by
 obtain ⟨g1, a1, b1, c1⟩ := k1
 obtain ⟨g, a, b, c⟩ := k
 refine ⟨g1.join g, OwnS.cons (Parts.join (fresh_apart b1 c)) a1.cells a, join_le (b1.trans h2) b, fun x hx => ?_⟩
 rcases join_ne hx with h | h
 ·exact c1 x h
 ·have h3 := c x h
  cases h0 : μ x with
  | none => rfl
  | some o => rw [h1 x o h0] at h3; cases h3
theorem FreshS.mono {μ0 : Mem} {ds : List D} {cs : List Value} (k : FreshS μ1 μ' ds cs) (h : μ0.Le μ1) : FreshS μ0 μ' ds cs := by
 obtain ⟨g, a, b, c⟩ := k
 refine ⟨g, a, b, fun x hx => ?_⟩
 have h3 := c x hx
 cases h0 : μ0 x with
 | none => rfl
 | some o => rw [h x o h0] at h3; cases h3
theorem FreshS.st {ds : List D} {cs : List Value} (k : FreshS μ μ' ds cs) : Fresh μ μ' (.st ds) (.agg cs.toArray) := by
 obtain ⟨g, a, b, c⟩ := k
 exact ⟨g, ⟨cs, rfl, a⟩, b, c⟩
end
end Go.Vx
namespace Go.Vx
open Go.Proofs Classical
open Go.Sort
def RowI (h0 : Mem) (r : Nat) (ty : TypeId) (rest : List Value) (d : Array Int) : Mem := h0.set r (.cells (List.toArray ([] ++ (d.toList.map (Value.int .i64) ++ rest))) ty (0, 0))
section
variable {μ h0 : Mem} {r : Nat} {ty : TypeId} {rest : List Value} {d : Array Int}
theorem swp_size (d : Array Int) (i j : Nat) : (swp d i j).size = d.size := by simp [swp]
end
end Go.Vx
namespace Go.Vx
open Go.Proofs Classical
open Go.Sort
def RowS (h0 : Mem) (r : Nat) (ty : TypeId) (rest : List Value) (d : Array Int) (rs : Nat) (s : Int) : Mem := RowI (h0.set rs (.cells #[.int .i64 s] 3 (0, 0))) r ty rest d
section
variable {μ h0 : Mem} {r rs : Nat} {ty : TypeId} {rest : List Value} {d : Array Int} {s : Int}
theorem RowS.at (hne : rs ≠ r) : RowS h0 r ty rest d rs s rs = some (.cells #[.int .i64 s] 3 (0, 0)) := by
 rw [RowS, RowI, Mem.set_ne hne, Mem.set_at]
theorem RowS.row (h0 : Mem) (r : Nat) (ty : TypeId) (rest : List Value) (d : Array Int) (rs : Nat) (s : Int) : RowS h0 r ty rest d rs s = RowI (h0.set rs (.cells #[.int .i64 s] 3 (0, 0))) r ty rest d := rfl
theorem RowS.parts (hne : rs ≠ r) (hs : h0 rs = none) : Parts (RowS h0 r ty rest d rs s) (Mem.nil.set rs (.cells #[.int .i64 s] 3 (0, 0))) (RowI h0 r ty rest d) := fun b => by
 by_cases h : b = rs
 ·subst h
  exact .inl ⟨by rw [RowS.at hne, Mem.set_at], by rw [RowI, Mem.set_ne hne]; exact hs⟩
 ·refine .inr ⟨?_, by rw [Mem.set_ne h]; rfl⟩
  rw [RowS, RowI, RowI]
  by_cases h2 : b = r
  ·subst h2; rw [Mem.set_at, Mem.set_at]
  ·rw [Mem.set_ne h2, Mem.set_ne h2, Mem.set_ne h]
end
end Go.Vx
namespace Go.Vx
open Go.Proofs Classical
open Go.Sort
section
variable {μ h0 : Mem} {r rs : Nat} {ty : TypeId} {rest : List Value} {d : Array Int} {s : Int}
def RowX (h0 : Mem) (r : Nat) (ty : TypeId) (rest : List Value) (d : Array Int) (rs : Nat) (s : Int) : Mem := RowI (h0.set rs (.cells #[.int .u64 s] 190 (0, 0))) r ty rest d
theorem RowX.at (hne : rs ≠ r) : RowX h0 r ty rest d rs s rs = some (.cells #[.int .u64 s] 190 (0, 0)) := by
 rw [RowX, RowI, Mem.set_ne hne, Mem.set_at]
theorem RowX.parts (hne : rs ≠ r) (hs : h0 rs = none) : Parts (RowX h0 r ty rest d rs s) (Mem.nil.set rs (.cells #[.int .u64 s] 190 (0, 0))) (RowI h0 r ty rest d) := fun b => by
 by_cases h : b = rs
 ·subst h
  exact .inl ⟨by rw [RowX.at hne, Mem.set_at], by rw [RowI, Mem.set_ne hne]; exact hs⟩
 ·refine .inr ⟨?_, by rw [Mem.set_ne h]; rfl⟩
  rw [RowX, RowI, RowI]
  by_cases h2 : b = r
  ·subst h2; rw [Mem.set_at, Mem.set_at]
  ·rw [Mem.set_ne h2, Mem.set_ne h2, Mem.set_ne h]
end
end Go.Vx
namespace Go.Vx
open Go.Proofs Classical
section
variable {μ : Mem}
theorem Fresh.bd {μ' : Mem} {n : Int} {x : T} {q : Option Addr × Nat} (h : Fresh μ μ' x.tm.d (.agg (x.tm.cs q).toArray)) (hle : μ.Le μ') : Fresh μ μ' (B.bd ⟨n, x⟩).d (.agg (Value.int .i64 n :: x.tm.cs q).toArray) := by
 have := (FreshS.int (n := n) (FreshS.cons h hle (Mem.Le.refl _) FreshS.nil)).st
 have e : vcells (.agg (x.tm.cs q).toArray) ++ [] = x.tm.cs q := by simp [vcells]
 rw [e] at this
 exact this
set_option maxHeartbeats 4000000 in
theorem RepV.bd {n : Int} {x : T} {q : Option Addr × Nat} (h : RepV μ x.tm.d (.agg (x.tm.cs q).toArray)) : RepV μ (B.bd ⟨n, x⟩).d (.agg (Value.int .i64 n :: x.tm.cs q).toArray) := by
 have hc := RepV.cells h
 have e : vcells (.agg (x.tm.cs q).toArray) = x.tm.cs q := by simp [vcells]
 rw [e] at hc
 exact ⟨_, rfl, RepS.int (RepS.last hc)⟩
end
end Go.Vx
namespace Go.Vx
open Go.Sort
section
variable {α : Type} {lt : α → α → Bool}
end
section
variable {α : Type} [Inhabited α] {lt : α → α → Bool} {d c R : Array α}
structure Sw (a b n : Nat) (d d' : Array α) : Prop where
 size : d'.size = d.size
 fst : ∀ t, t < n → d'[a + t]! = d[b + t]!
 snd : ∀ t, t < n → d'[b + t]! = d[a + t]!
 out : ∀ k, k < a ∨ a + n ≤ k → k < b ∨ b + n ≤ k → d'[k]! = d[k]!
theorem Sw.nil (a b : Nat) (d : Array α) : Sw a b 0 d d := ⟨rfl, fun t h => by omega, fun t h => by omega, fun _ _ _ => rfl⟩
theorem Sw.step {a b n : Nat} (h : Sw a b n d c) (h1 : a + n < b) (h2 : b + n < d.size) : Sw a b (n + 1) d (swp c (a + n) (b + n)) := by
 have g : ∀ k, (swp c (a + n) (b + n))[k]! = if k = b + n then c[a + n]! else if k = a + n then c[b + n]! else c[k]! := fun k => swp_get c (by rw [h.size]; omega) (by rw [h.size]; omega) k
 refine ⟨by rw [Go.Sort.swp_size, h.size], fun t ht => ?_, fun t ht => ?_, fun k hk1 hk2 => ?_⟩
 ·rw [g, if_neg (by omega)]
  by_cases e : t = n
  ·subst e; rw [if_pos rfl, h.out _ (by omega) (by omega)]
  ·rw [if_neg (by omega), h.fst t (by omega)]
 ·rw [g]
  by_cases e : t = n
  ·subst e; rw [if_pos rfl, h.out _ (by omega) (by omega)]
  ·rw [if_neg (by omega), if_neg (by omega), h.snd t (by omega)]
 ·rw [g, if_neg (by omega), if_neg (by omega), h.out k (by omega) (by omega)]
structure Rot (a m b : Nat) (d d' : Array α) : Prop where
 size : d'.size = d.size
 out : ∀ k, k < a ∨ b ≤ k → d'[k]! = d[k]!
 lo : ∀ t, t < b - m → d'[a + t]! = d[m + t]!
 hi : ∀ t, t < m - a → d'[a + (b - m) + t]! = d[a + t]!
theorem Rot.same {m i : Nat} (hi : i ≤ m) (s : Sw (m - i) m i d R) : Rot (m - i) m (m + i) d R where
 size := s.size
 out k hk := s.out k (by omega) (by omega)
 lo t ht := s.fst t (by omega)
 hi t ht := by rw [show m - i + (m + i - m) + t = m + t by omega]; exact s.snd t (by omega)
section
variable {s m e : Nat}
theorem SortedIn.sub {a b a' b' : Nat} (h : SortedIn lt a b d) (h1 : a ≤ a') (h2 : b' ≤ b) : SortedIn lt a' b' d := fun i j hi hij hj => h i j (by omega) hij (by omega)
structure Cut (lt : α → α → Bool) (a s m e b : Nat) (d : Array α) : Prop where
 sa : a ≤ s
 sm : s ≤ m
 me : m ≤ e
 eb : e ≤ b
 lo : ∀ x y, a ≤ x → x < s → e ≤ y → y < b → lt d[y]! d[x]! = false
 hi : ∀ x y, s ≤ x → x < m → m ≤ y → y < e → lt d[x]! d[y]! = false
theorem Rot.up {a i : Nat} (h : Rot a (a + 1) (i + 1) d c) (ha : a ≤ i) (hi : i + 1 < d.size) : Rot a (a + 1) (i + 2) d (swp c i (i + 1)) := by
 have g : ∀ k, (swp c i (i + 1))[k]! = if k = i + 1 then c[i]! else if k = i then c[i + 1]! else c[k]! := fun k => swp_get c (by rw [h.size]; omega) (by rw [h.size]; omega) k
 refine ⟨by rw [Go.Sort.swp_size, h.size], fun k hk => ?_, fun t ht => ?_, fun t ht => ?_⟩
 ·rw [g, if_neg (by omega), if_neg (by omega), h.out k (by omega)]
 ·rw [g, if_neg (by omega)]
  by_cases e : a + t = i
  ·rw [if_pos e, h.out _ (by omega), show a + 1 + t = i + 1 by omega]
  ·rw [if_neg e, h.lo t (by omega)]
 ·obtain rfl : t = 0 := by omega
  rw [g, if_pos (by omega)]
  have := h.hi 0 (by omega)
  rwa [show a + (i + 1 - (a + 1)) + 0 = i by omega] at this
end
end
end Go.Vx
namespace Go.Vx
open Go.Proofs Classical
structure Ord3 {α : Type} (c : α → α → Int) : Prop where
 zero : ∀ x y, c x y = 0 ↔ x = y
 anti : ∀ x y, c x y < 0 ↔ 0 < c y x
 trans : ∀ x y z, c x y < 0 → c y z < 0 → c x z < 0
def lexI (p q : Int) : Int := if p = 0 then q else p
theorem lexI_zero {p q : Int} : lexI p q = 0 ↔ p = 0 ∧ q = 0 := by unfold lexI; split <;> omega
theorem lexI_anti {p q p' q' : Int} (h1 : p < 0 ↔ 0 < p') (h2 : p' < 0 ↔ 0 < p) (h3 : p = 0 → (q < 0 ↔ 0 < q')) : lexI p q < 0 ↔ 0 < lexI p' q' := by
 unfold lexI
 split
 ·rename_i h
  rw [if_pos (by omega)]; exact h3 h
 ·rw [if_neg (by omega)]; exact h1
theorem lexI_trans {p1 q1 p2 q2 p3 q3 : Int} (t : p1 < 0 → p2 < 0 → p3 < 0) (e1 : p1 = 0 → p3 = p2) (e2 : p2 = 0 → p3 = p1) (r : p1 = 0 → p2 = 0 → q1 < 0 → q2 < 0 → q3 < 0) : lexI p1 q1 < 0 → lexI p2 q2 < 0 → lexI p3 q3 < 0 := by
 unfold lexI
 intro h1 h2
 by_cases k1 : p1 = 0
 ·rw [if_pos k1] at h1
  have := e1 k1
  by_cases k2 : p2 = 0
  ·rw [if_pos k2] at h2
   rw [if_pos (by omega)]; exact r k1 k2 h1 h2
  ·rw [if_neg k2] at h2
   rw [if_neg (by omega)]; omega
 ·rw [if_neg k1] at h1
  by_cases k2 : p2 = 0
  ·have := e2 k2
   rw [if_neg (by omega)]; omega
  ·rw [if_neg k2] at h2
   have := t h1 h2
   rw [if_neg (by omega)]; exact this
theorem Ord3.lex_trans {α : Type} {c : α → α → Int} (h : Ord3 c) {x y z : α} {q1 q2 q3 : Int} (r : x = y → y = z → q1 < 0 → q2 < 0 → q3 < 0) : lexI (c x y) q1 < 0 → lexI (c y z) q2 < 0 → lexI (c x z) q3 < 0 :=
 lexI_trans (h.trans x y z) (fun e => by rw [(h.zero _ _).1 e]) (fun e => by rw [(h.zero _ _).1 e]) fun e1 e2 => r ((h.zero _ _).1 e1) ((h.zero _ _).1 e2)
theorem Ord3.lex_anti {α : Type} {c : α → α → Int} (h : Ord3 c) {x y : α} {q q' : Int} (r : x = y → (q < 0 ↔ 0 < q')) : lexI (c x y) q < 0 ↔ 0 < lexI (c y x) q' :=
 lexI_anti (h.anti x y) (h.anti y x) fun e => r ((h.zero _ _).1 e)
def cInt (a b : Int) : Int := if a = b then 0 else sgn (decide (a < b))
theorem cInt_ord : Ord3 cInt where
 zero x y := by
  unfold cInt sgn
  by_cases h : x = y
  ·simp [h]
  ·by_cases g : x < y <;> simp [h, g]
 anti x y := by
  unfold cInt sgn
  by_cases h : x = y
  ·simp [h]
  ·rw [if_neg h, if_neg (Ne.symm h)]
   by_cases g : x < y
   ·have g2 : ¬ y < x := by omega
    simp [g, g2]
   ·have g2 : y < x := by omega
    simp [g, g2]
 trans x y z := by
  unfold cInt sgn
  by_cases h : x = y <;> by_cases h2 : y = z <;> by_cases h3 : x = z <;> by_cases g : x < y <;> by_cases g2 : y < z <;> by_cases g3 : x < z <;> simp [h, h2, h3, g, g2, g3] <;> omega
theorem bl_irrefl : ∀ l : List UInt8, Op.bytesLess l l = false
 | [] => rfl
 | a :: l => by rw [Op.bytesLess]; simp [bl_irrefl l]
theorem bl_trans : ∀ x y z : List UInt8, Op.bytesLess x y = true → Op.bytesLess y z = true → Op.bytesLess x z = true
 | x, y, [], h1, h2 => by simp [Op.bytesLess] at h2
 | x, [], c :: z, h1, h2 => by cases x <;> simp [Op.bytesLess] at h1
 | [], b :: y, c :: z, h1, h2 => rfl
 | a :: x, b :: y, c :: z, h1, h2 => by
  simp only [Op.bytesLess, Bool.or_eq_true, decide_eq_true_eq, Bool.and_eq_true, beq_iff_eq] at h1 h2 ⊢
  rcases h1 with h1 | ⟨rfl, h1⟩
  ·rcases h2 with h2 | ⟨rfl, h2⟩
   ·exact .inl (UInt8.lt_trans h1 h2)
   ·exact .inl h1
  ·rcases h2 with h2 | ⟨rfl, h2⟩
   ·exact .inl h2
   ·exact .inr ⟨rfl, bl_trans x y z h1 h2⟩
theorem bl_other {x y : List UInt8} (h : x ≠ y) : Op.bytesLess y x = !Op.bytesLess x y := by
 rw [← bytesLess_total x y]
 have : (x == y) = false := by simpa using h
 rw [this, Bool.or_false]
theorem bytes_ne {x y : ByteArray} (h : ¬ x = y) : x.data.toList ≠ y.data.toList := fun k => h (by
 cases x; cases y
 simp only [ByteArray.mk.injEq]
 exact Array.ext' k)
noncomputable def cName (a b : ByteArray) : Int := if a = b then 0 else sgn (Op.bytesLess a.data.toList b.data.toList)
theorem cName_ord : Ord3 cName where
 zero x y := by
  unfold cName
  by_cases h : x = y
  ·simp [h]
  ·rw [if_neg h]; exact ⟨fun k => absurd k (sgn_ne _), fun k => absurd k h⟩
 anti x y := by
  unfold cName
  by_cases h : x = y
  ·simp [h]
  ·rw [if_neg h, if_neg (Ne.symm h), bl_other (bytes_ne h)]
   cases Op.bytesLess x.data.toList y.data.toList <;> simp [sgn]
 trans x y z := by
  unfold cName
  intro h1 h2
  split at h1
  ·omega
  split at h2
  ·omega
  have k1 : Op.bytesLess x.data.toList y.data.toList = true := by
   cases e : Op.bytesLess x.data.toList y.data.toList with
   | true => rfl
   | false => rw [e] at h1; simp [sgn] at h1
  have k2 : Op.bytesLess y.data.toList z.data.toList = true := by
   cases e : Op.bytesLess y.data.toList z.data.toList with
   | true => rfl
   | false => rw [e] at h2; simp [sgn] at h2
  have k3 := bl_trans _ _ _ k1 k2
  have k4 : ¬ x = z := fun e => by
   rw [e, bl_irrefl] at k3; exact absurd k3 (by decide)
  rw [if_neg k4, k3]
  decide
theorem hd_lex (x y : Tm) (r : Int) : hdCmp x y r = lexI (cInt x.kind y.kind) (lexI (cInt x.num y.num) (lexI (cName x.name y.name) r)) := by
 unfold hdCmp lexI cInt cName
 by_cases h1 : x.kind = y.kind <;> by_cases h2 : x.num = y.num <;> by_cases h3 : x.name = y.name <;> simp [h1, h2, h3, sgn_ne]
theorem T.cmp_anti : ∀ x y : T, x.cmp y < 0 ↔ 0 < y.cmp x := by
 intro x
 induction x with
 | pair a b iha ihb =>
  intro y
  rw [T.cmp_eq, T.cmp_eq y, hd_lex, hd_lex]
  refine cInt_ord.lex_anti fun _ => cInt_ord.lex_anti fun _ => cName_ord.lex_anti fun _ => ?_
  cases y with
  | pair c d =>
   show lexI (a.cmp c) (b.cmp d) < 0 ↔ 0 < lexI (c.cmp a) (d.cmp b)
   refine lexI_anti (iha c) ?_ fun _ => ihb d
   have h1 := iha c; have h2 := T.cmp_zero a c; have h3 := T.cmp_zero c a
   by_cases e : a = c
   ·have := h2.2 e; have := h3.2 e.symm; omega
   ·have : a.cmp c ≠ 0 := fun k => e (h2.1 k)
    have : c.cmp a ≠ 0 := fun k => e (h3.1 k).symm
    omega
  | _ => exact Iff.rfl
 | _ =>
  intro y
  rw [T.cmp_eq, T.cmp_eq y, hd_lex, hd_lex]
  refine cInt_ord.lex_anti fun _ => cInt_ord.lex_anti fun _ => cName_ord.lex_anti fun _ => ?_
  cases y <;> exact Iff.rfl
theorem T.cmp_trans : ∀ x y z : T, x.cmp y < 0 → y.cmp z < 0 → x.cmp z < 0 := by
 intro x
 induction x with
 | pair a b iha ihb =>
  intro y z
  rw [T.cmp_eq, T.cmp_eq y, T.cmp_eq _ z, hd_lex, hd_lex, hd_lex]
  refine cInt_ord.lex_trans fun _ _ => cInt_ord.lex_trans fun _ _ => cName_ord.lex_trans fun _ _ => ?_
  cases y with
  | pair c d =>
   cases z with
   | pair e f =>
    show lexI (a.cmp c) (b.cmp d) < 0 → lexI (c.cmp e) (d.cmp f) < 0 → lexI (a.cmp e) (b.cmp f) < 0
    exact lexI_trans (iha c e) (fun k => by rw [(T.cmp_zero _ _).1 k]) (fun k => by rw [(T.cmp_zero _ _).1 k]) fun _ _ => ihb d f
   | _ => exact fun _ h => absurd h (Int.lt_irrefl 0)
  | _ => exact fun h => absurd h (Int.lt_irrefl 0)
 | _ =>
  intro y z
  rw [T.cmp_eq, T.cmp_eq y, T.cmp_eq _ z, hd_lex, hd_lex, hd_lex]
  refine cInt_ord.lex_trans fun _ _ => cInt_ord.lex_trans fun _ _ => cName_ord.lex_trans fun _ _ => ?_
  exact fun h => absurd h (Int.lt_irrefl 0)
theorem T.cmp_ord : Ord3 T.cmp := ⟨T.cmp_zero, T.cmp_anti, T.cmp_trans⟩
def cmpList {α : Type} (c : α → α → Int) : List α → List α → Int
 | [], [] => 0
 | [], _ :: _ => -1
 | _ :: _, [] => 1
 | a :: l, b :: m => lexI (c a b) (cmpList c l m)
theorem cmpList_ord {α : Type} {c : α → α → Int} (h : Ord3 c) : Ord3 (cmpList c) where
 zero := by
  intro x
  induction x with
  | nil => intro y; cases y <;> simp [cmpList]
  | cons a l ih =>
   intro y
   cases y with
   | nil => simp [cmpList]
   | cons b m => rw [cmpList, lexI_zero, h.zero, ih, List.cons.injEq]
 anti := by
  intro x
  induction x with
  | nil => intro y; cases y <;> simp [cmpList]
  | cons a l ih =>
   intro y
   cases y with
   | nil => simp [cmpList]
   | cons b m => rw [cmpList, cmpList]; exact h.lex_anti fun _ => ih m
 trans := by
  intro x
  induction x with
  | nil => intro y z; cases y <;> cases z <;> simp [cmpList]
  | cons a l ih =>
   intro y z
   cases y with
   | nil => simp [cmpList]
   | cons b m =>
    cases z with
    | nil => simp [cmpList]
    | cons e n => rw [cmpList, cmpList, cmpList]; exact h.lex_trans fun _ _ => ih m n
noncomputable def B.cmp (x y : B) : Int := lexI (cInt x.var y.var) (x.to.cmp y.to)
theorem B.cmp_ord : Ord3 B.cmp where
 zero x y := by
  rw [B.cmp, lexI_zero, cInt_ord.zero, T.cmp_zero]
  cases x; cases y; simp
 anti x y := cInt_ord.lex_anti fun _ => T.cmp_anti _ _
 trans x y z := cInt_ord.lex_trans fun _ _ => T.cmp_trans _ _ _
end Go.Vx
namespace Go.Vx
open Go.Proofs Classical
section
variable {α : Type} {c : α → α → Int}
def Asc3 (c : α → α → Int) (l : List α) : Prop := l.Pairwise fun a b => c a b < 0
theorem Ord3.irrefl (h : Ord3 c) (x : α) : ¬ c x x < 0 := by have := (h.zero x x).2 rfl; omega
theorem Asc3.nodup (h : Ord3 c) {l : List α} (hl : Asc3 c l) : l.Nodup := hl.imp fun {a b} k e => by subst e; exact h.irrefl _ k
theorem Asc3.uniq (h : Ord3 c) {l m : List α} (hl : Asc3 c l) (hm : Asc3 c m) (e : ∀ x, x ∈ l ↔ x ∈ m) : l = m := by
 have hp : l.Perm m := (List.perm_ext_iff_of_nodup (hl.nodup h) (hm.nodup h)).2 e
 refine List.Perm.eq_of_pairwise (le := fun a b => c a b < 0) (fun a b _ _ h1 h2 => ?_) hl hm hp
 have := (h.anti a b).1 h1
 omega
end
end Go.Vx
namespace Go.Vx
open Go.Proofs Classical
noncomputable abbrev cmpB : List B → List B → Int := cmpList B.cmp
theorem cmpB_ord : Ord3 cmpB := cmpList_ord B.cmp_ord
section
variable {μ : Mem}
end
end Go.Vx
namespace Go.Vx
open Go.Proofs Classical
structure Ds where
 bs : List Bd
def Ds.d (x : Ds) : D := .sl 5 (x.bs.map Bd.d)
theorem Ds.d_eq (x : Ds) : x.d = .sl 5 (x.bs.map Bd.d) := rfl
theorem Ds.d_n (x : Ds) : x.d.n = 1 := rfl
abbrev Ds.P := Option Addr × Nat
def Ds.cs (x : Ds) (p : Ds.P) : List Value := [.slice p.1 x.bs.length p.2]
section
variable {μ : Mem}
theorem Ds.invV {x : Ds} {v : Value} (h : RepV μ x.d v) : ∃ p : Ds.P, v = .slice p.1 x.bs.length p.2 := by
 have w_ := Rep.sl (xs := x.bs.map Bd.d) h
 obtain ⟨b, c, rfl, _⟩ := w_
 exact ⟨(b, c), by rw [List.length_map]⟩
theorem Ds.inv {x : Ds} {v : Value} (h : RepV μ x.d v) : ∃ p : Ds.P, v = .slice p.1 x.bs.length p.2 ∧ Sl μ 5 p.1 x.bs.length (x.bs.map Bd.d) := by
 have w_ := Rep.sl (xs := x.bs.map Bd.d) h
 obtain ⟨b, c, rfl, hs⟩ := w_
 rw [List.length_map] at hs
 exact ⟨(b, c), by rw [List.length_map], hs⟩
theorem Ds.elem {l : List Ds} {base : Option Addr} {n : Nat} (h : Sl μ 1 base n (l.map Ds.d)) {i : Nat} {x : Ds} (hx : l[i]? = some x) : ∃ ad, ∃ p : Ds.P, ElemAt μ base n 1 i ad (x.cs p) ∧ RepV μ x.d (.slice p.1 x.bs.length p.2) := by
 have w_ := h.get i x.d (by simp [hx])
 obtain ⟨ad, cs, h1, h2⟩ := w_
 have h3 : Rep μ (.sl 5 (x.bs.map Bd.d)) cs := h2
 have hl := Rep.len _ _ h3
 match cs, hl with
 | [v], _ =>
  have w_ := Ds.invV (x := x) h3
  obtain ⟨p, rfl⟩ := w_
  exact ⟨ad, p, h1, h3⟩
end
end Go.Vx
namespace Go.Vx
open Go.Proofs Classical
def dsOf (x : List B) : Ds := ⟨x.map B.bd⟩
def AllOk (l : List Ds) : Prop := ∀ x ∈ l, substOk x.bs
theorem AllOk.lift {l : List Ds} (h : AllOk l) : ∃ L : List (List B), l = L.map dsOf ∧ ∀ x ∈ L, Subst x := by
 induction l with
 | nil => exact ⟨[], rfl, by simp⟩
 | cons a l ih =>
  have w_ := ih fun x hx => h x (by simp [hx])
  obtain ⟨L, rfl, hL⟩ := w_
  have w_ := (h a (by simp)).subst
  obtain ⟨bs, e, hb⟩ := w_
  refine ⟨bs :: L, ?_, ?_⟩
  ·cases a; simp only at e; subst e; rfl
  ·intro x hx
   rcases List.mem_cons.1 hx with rfl | hx
   ·exact hb
   ·exact hL x hx
end Go.Vx
namespace Go.Vx
open Go.Proofs Classical
noncomputable def T.ap (s : Int → T) : T → T
 | .nil => .nil
 | .var n => s n
 | .sym x => .sym x
 | .num n => .num n
 | .pair a b => .pair (a.ap s) (b.ap s)
def T.occ (n : Int) : T → Prop
 | .var m => m = n
 | .pair a b => a.occ n ∨ b.occ n
 | _ => False
theorem T.ap_congr {s t : Int → T} : ∀ {x : T}, (∀ n, x.occ n → s n = t n) → x.ap s = x.ap t
 | .nil, _ => rfl
 | .var n, h => h n rfl
 | .sym _, _ => rfl
 | .num _, _ => rfl
 | .pair a b, h => by rw [T.ap, T.ap, T.ap_congr fun n k => h n (.inl k), T.ap_congr fun n k => h n (.inr k)]
theorem T.ap_var : ∀ x : T, x.ap T.var = x
 | .nil => rfl
 | .var _ => rfl
 | .sym _ => rfl
 | .num _ => rfl
 | .pair a b => by rw [T.ap, T.ap_var a, T.ap_var b]
theorem T.ap_ap (s t : Int → T) : ∀ x : T, (x.ap s).ap t = x.ap fun n => (s n).ap t
 | .nil => rfl
 | .var _ => rfl
 | .sym _ => rfl
 | .num _ => rfl
 | .pair a b => by rw [T.ap, T.ap, T.ap, T.ap_ap s t a, T.ap_ap s t b]
theorem T.ap_fix {s : Int → T} : ∀ {x : T}, x.ap s = x → ∀ n, x.occ n → s n = .var n
 | .var m, h, n, k => by
  have k : m = n := k
  subst k; exact h
 | .pair a b, h, n, k => by
  rw [T.ap, T.pair.injEq] at h
  rcases k with k | k
  ·exact T.ap_fix h.1 n k
  ·exact T.ap_fix h.2 n k
 | .nil, _, n, k => k.elim
 | .sym _, _, n, k => k.elim
 | .num _, _, n, k => k.elim
def SolvesE (s : Int → T) (E : List (T × T)) : Prop := ∀ e ∈ E, e.1.ap s = e.2.ap s
structure Solved (s : Int → T) (E : List (T × T)) : Prop where
 sol : SolvesE s E
 gen : ∀ t : Int → T, SolvesE t E → ∀ n, (s n).ap t = t n
 least : ∀ n m, s n = .var m → m ≤ n
theorem Solved.idem {s : Int → T} {E : List (T × T)} (h : Solved s E) (n : Int) : (s n).ap s = s n := h.gen s h.sol n
theorem Solved.self {s : Int → T} {E : List (T × T)} (h : Solved s E) {n m : Int} (k : (s n).occ m) : s m = .var m := T.ap_fix (h.idem n) m k
theorem Solved.uniq {s t : Int → T} {E : List (T × T)} (hs : Solved s E) (ht : Solved t E) : s = t := funext fun n => by
 have key : ∀ u, (s n).occ u → t u = .var u := fun u hu => by
  have h1 := hs.self hu
  have h2 := ht.gen s hs.sol u
  rw [h1] at h2
  cases e : t u with
  | var w =>
   rw [e] at h2
   have h3 : s w = .var u := h2
   have h4 := ht.least u w e
   have h5 := hs.least w u h3
   rw [show w = u by omega]
  | _ => rw [e] at h2; cases h2
 have h1 := hs.gen t ht.sol n
 rw [← h1]
 refine ((T.ap_congr (t := T.var) key).trans (T.ap_var _)).symm
theorem Solved.nil : Solved T.var [] := ⟨fun e h => by simp at h, fun t _ n => rfl, fun n m h => by cases h; exact Int.le_refl _⟩
noncomputable def T.one (v : Int) (x : T) (n : Int) : T := if n = v then x else .var n
theorem T.one_fix {v : Int} {x : T} : ∀ {y : T}, ¬ y.occ v → y.ap (T.one v x) = y := fun {y} h => by
 refine (T.ap_congr (t := T.var) fun n k => ?_).trans (T.ap_var _)
 rw [T.one, if_neg fun e => by subst e; exact h k]
theorem Solved.bind {s : Int → T} {E : List (T × T)} (h : Solved s E) {a b : T} {v : Int} {x : T} (ha : a.ap s = .var v) (hb : b.ap s = x) (ho : ¬ x.occ v) (hl : ∀ m, x = .var m → m < v) : Solved (fun n => (s n).ap (T.one v x)) ((a, b) :: E) := by
 have hx : ∀ y : T, y.ap (fun n => (s n).ap (T.one v x)) = (y.ap s).ap (T.one v x) := fun y => (T.ap_ap _ _ y).symm
 refine ⟨fun e he => ?_, fun t ht n => ?_, fun n m hm => ?_⟩
 ·rcases List.mem_cons.1 he with rfl | he
  ·rw [hx, hx, ha, hb, T.one_fix ho]
   show T.one v x v = x
   rw [T.one, if_pos rfl]
  ·rw [hx, hx, h.sol e he]
 ·have hE : SolvesE t E := fun e he => ht e (List.mem_cons_of_mem _ he)
  have hg := h.gen t hE
  have hap : ∀ y : T, (y.ap s).ap t = y.ap t := fun y => by rw [T.ap_ap]; exact T.ap_congr fun n _ => hg n
  have h1 : t v = x.ap t := by
   have h2 := ht (a, b) (by simp)
   rw [← hap a, ← hap b, ha, hb] at h2
   exact h2
  rw [T.ap_ap, ← hg n]
  refine T.ap_congr fun m _ => ?_
  rw [T.one]
  split
  ·rename_i e; rw [e]; exact h1.symm
  ·rfl
 ·cases e : s n with
  | var w =>
   rw [e] at hm
   have hm : T.one v x w = .var m := hm
   have h1 := h.least n w e
   rw [T.one] at hm
   split at hm
   ·have := hl m hm; omega
   ·cases hm; omega
  | _ => rw [e] at hm; cases hm
theorem Solved.stays {s t : Int → T} {E F : List (T × T)} (hs : Solved s E) (ht : Solved t F) (h : ∀ e ∈ E, e ∈ F) {n : Int} (k : s n ≠ .var n) : t n ≠ .var n := fun e => by
 have hE : SolvesE t E := fun e he => ht.sol e (h e he)
 have h1 := hs.gen t hE n
 rw [e] at h1
 cases e2 : s n with
 | var w =>
  rw [e2] at h1
  have h3 : t w = .var n := h1
  have h4 := hs.least n w e2
  have h5 := ht.least w n h3
  exact k (by rw [e2, show w = n by omega])
 | _ => rw [e2] at h1; cases h1
theorem Solved.same {s : Int → T} {E F : List (T × T)} (h : Solved s E) (k : ∀ t, SolvesE t E ↔ SolvesE t F) : Solved s F := ⟨(k s).1 h.sol, fun t ht => h.gen t ((k t).2 ht), h.least⟩
end Go.Vx
namespace Go.Vx
open Go.Proofs Classical
theorem filter_le {α : Type} {p q : α → Bool} : ∀ {l : List α}, (∀ n ∈ l, p n = true → q n = true) → (l.filter p).length ≤ (l.filter q).length
 | [], _ => Nat.le_refl _
 | a :: l, h => by
  have ih := filter_le (l := l) fun n hn => h n (List.mem_cons_of_mem _ hn)
  have ha := h a (by simp)
  cases e : p a with
  | true => rw [List.filter_cons_of_pos e, List.filter_cons_of_pos (ha e), List.length_cons, List.length_cons]; omega
  | false =>
   rw [List.filter_cons_of_neg (by simp [e])]
   cases e2 : q a with
   | true => rw [List.filter_cons_of_pos e2, List.length_cons]; omega
   | false => rw [List.filter_cons_of_neg (by simp [e2])]; exact ih
theorem filter_lt {α : Type} {p q : α → Bool} : ∀ {l : List α}, (∀ n ∈ l, p n = true → q n = true) → ∀ v ∈ l, p v = false → q v = true → (l.filter p).length < (l.filter q).length
 | [], _, v, hv, _, _ => by simp at hv
 | a :: l, h, v, hv, h1, h2 => by
  have hle := filter_le (l := l) fun n hn => h n (List.mem_cons_of_mem _ hn)
  rcases List.mem_cons.1 hv with rfl | hv
  ·rw [List.filter_cons_of_neg (by simp [h1]), List.filter_cons_of_pos h2, List.length_cons]; omega
  ·have ih := filter_lt (l := l) (fun n hn => h n (List.mem_cons_of_mem _ hn)) v hv h1 h2
   have ha := h a (by simp)
   cases e : p a with
   | true => rw [List.filter_cons_of_pos e, List.filter_cons_of_pos (ha e), List.length_cons, List.length_cons]; omega
   | false =>
    rw [List.filter_cons_of_neg (by simp [e])]
    cases e2 : q a with
    | true => rw [List.filter_cons_of_pos e2, List.length_cons]; omega
    | false => rw [List.filter_cons_of_neg (by simp [e2])]; exact ih
noncomputable def freeN (N : List Int) (s : Int → T) : Nat := (N.filter fun n => decide (s n = .var n)).length
theorem freeN_lt {s t : Int → T} {E F : List (T × T)} (hs : Solved s E) (ht : Solved t F) (h : ∀ e ∈ E, e ∈ F) {N : List Int} {v : Int} (hv : v ∈ N) (h1 : s v = .var v) (h2 : t v ≠ .var v) : freeN N t < freeN N s :=
 filter_lt (fun n _ k => by
  simp only [decide_eq_true_eq] at k ⊢
  exact Classical.byContradiction fun g => hs.stays ht h g k) v hv (decide_eq_false h2) (decide_eq_true h1)
noncomputable def asF (bs : List B) (n : Int) : T := (sub bs n).getD (.var n)
theorem subst_ap (f : Int → Option T) : ∀ x : T, x.subst f = x.ap fun n => (f n).getD (.var n)
 | .nil => rfl
 | .var _ => rfl
 | .sym _ => rfl
 | .num _ => rfl
 | .pair a b => by rw [T.subst, T.ap, subst_ap f a, subst_ap f b]
theorem subst_asF (bs : List B) (x : T) : x.subst (sub bs) = x.ap (asF bs) := subst_ap _ x
theorem sub_mapTo (g : T → T) : ∀ (bs : List B) (n : Int), sub (bs.map fun b => ⟨b.var, g b.to⟩) n = (sub bs n).map g
 | [], n => rfl
 | b :: r, n => by
  rw [List.map_cons, sub, sub, sub_mapTo g r]
  split <;> rfl
theorem asF_bind {bs : List B} {v : Int} {x : T} {k : Nat} (hv : sub bs v = none) : asF (insAt (bs.map fun b => ⟨b.var, b.to.ap (T.one v x)⟩) ⟨v, x⟩ k) = fun n => (asF bs n).ap (T.one v x) := funext fun n => by
 have e1 : sub (bs.map fun b => (⟨b.var, b.to.ap (T.one v x)⟩ : B)) n = (sub bs n).map fun y => y.ap (T.one v x) := sub_mapTo (fun y => y.ap (T.one v x)) bs n
 have e2 : sub ((bs.map fun b => (⟨b.var, b.to.ap (T.one v x)⟩ : B)).take k) n = none ∨ v ≠ n := by
  by_cases e : v = n
  ·left
   subst e
   have h3 : sub (bs.map fun b => (⟨b.var, b.to.ap (T.one v x)⟩ : B)) v = none := by rw [e1, hv]; rfl
   rw [← List.take_append_drop k (bs.map _), sub_append] at h3
   cases h4 : sub ((bs.map fun b => (⟨b.var, b.to.ap (T.one v x)⟩ : B)).take k) v with
   | none => rfl
   | some y => rw [h4] at h3; cases h3
  ·exact .inr e
 have e3 : sub (insAt (bs.map fun b => (⟨b.var, b.to.ap (T.one v x)⟩ : B)) ⟨v, x⟩ k) n = if v = n then some x else (sub bs n).map fun y => y.ap (T.one v x) := by
  rw [insAt, sub_append, sub_append]
  by_cases e : v = n
  ·rw [if_pos e, e2.resolve_right (fun h => h e)]
   simp [sub, e]
  ·have h5 : sub [(⟨v, x⟩ : B)] n = none := by simp [sub, e]
   rw [if_neg e, h5, Option.none_or, ← sub_append, List.take_append_drop, e1]
 rw [asF, e3, asF]
 by_cases e : v = n
 ·rw [if_pos e, ← e, hv]
  show x = T.one v x v
  rw [T.one, if_pos rfl]
 ·rw [if_neg e]
  cases sub bs n with
  | none =>
   show T.var n = T.one v x n
   rw [T.one, if_neg fun h => e h.symm]
  | some y => rfl
end Go.Vx
namespace Go.Vx
open Go.Proofs Classical
theorem sub_in {bs : List B} {n : Int} {x : T} (h : sub bs n = some x) : (⟨n, x⟩ : B) ∈ bs := by
 induction bs with
 | nil => cases h
 | cons b r ih =>
  rw [sub] at h
  split at h
  ·rename_i e
   cases h
   rw [← e]
   exact List.mem_cons_self ..
  ·exact List.mem_cons_of_mem _ (ih h)
theorem Srt.pw {bs : List B} (h : Srt bs) : bs.Pairwise fun a b => a.var < b.var := by
 rw [List.pairwise_iff_getElem]
 intro i j hi hj hij
 exact h i j _ _ hij (by simp) (by simp)
theorem sub_of_mem {bs : List B} (h : bs.Pairwise fun a b => a.var < b.var) {b : B} (hb : b ∈ bs) : sub bs b.var = some b.to := by
 induction bs with
 | nil => simp at hb
 | cons a r ih =>
  have w_ := List.pairwise_cons.1 h
  obtain ⟨h1, h2⟩ := w_
  rw [sub]
  rcases List.mem_cons.1 hb with rfl | hb
  ·rw [if_pos rfl]
  ·have := h1 b hb
   rw [if_neg (by omega)]
   exact ih h2 hb
def Proper (bs : List B) : Prop := ∀ b ∈ bs, b.to ≠ .var b.var
theorem asF_inj {bs bt : List B} (hs : Srt bs) (ht : Srt bt) (h1 : Proper bs) (h2 : Proper bt) (e : asF bs = asF bt) : bs = bt := by
 have half : ∀ {bs bt : List B}, Srt bs → Proper bs → asF bs = asF bt → ∀ b ∈ bs, b ∈ bt := fun {bs bt} hs h1 e b hb => by
  have k1 : asF bs b.var = b.to := by rw [asF, sub_of_mem hs.pw hb]; rfl
  rw [e, asF] at k1
  cases k2 : sub bt b.var with
  | none => rw [k2] at k1; exact absurd k1.symm (h1 b hb)
  | some x =>
   rw [k2] at k1
   have k1 : x = b.to := k1
   subst k1
   exact sub_in k2
 have hp : bs.Perm bt := (List.perm_ext_iff_of_nodup (hs.pw.imp fun h e => by subst e; omega) (ht.pw.imp fun h e => by subst e; omega)).2 fun b => ⟨half hs h1 e b, half ht h2 e.symm b⟩
 refine List.Perm.eq_of_pairwise (le := fun a b : B => a.var < b.var) (fun a b _ _ h3 h4 => by omega) hs.pw ht.pw hp
def FitsL (bs : List B) : Prop := (∀ b ∈ bs, b.to.size ≤ 5000) ∧ bs.length ≤ 400
structure SolL (bs : List B) (E : List (T × T)) : Prop where
 srt : Srt bs
 proper : Proper bs
 sol : Solved (asF bs) E
theorem SolL.uniq {bs bt : List B} {E : List (T × T)} (h : SolL bs E) (k : SolL bt E) : bs = bt := asF_inj h.srt k.srt h.proper k.proper (h.sol.uniq k.sol)
theorem SolL.nil : SolL [] [] := ⟨fun i j b c _ h => by simp at h, fun b h => by simp at h, Solved.nil⟩
theorem asF_bound {bs : List B} (hs : Srt bs) (hp : Proper bs) {n : Int} : asF bs n ≠ .var n ↔ ∃ b ∈ bs, b.var = n := by
 constructor
 ·intro h
  cases k : sub bs n with
  | none => rw [asF, k] at h; exact absurd rfl h
  | some x => exact ⟨_, sub_in k, rfl⟩
 ·rintro ⟨b, hb, rfl⟩
  rw [asF, sub_of_mem hs.pw hb]
  exact hp b hb
end Go.Vx
namespace Go.Vx
open Go.Proofs Classical
theorem srt_of_pw {bs : List B} (h : bs.Pairwise fun a b => a.var < b.var) : Srt bs := fun i j b c hij hb hc => by
 rw [List.pairwise_iff_getElem] at h
 have w_ := List.getElem?_eq_some_iff.1 hb
 obtain ⟨hi, rfl⟩ := w_
 have w_ := List.getElem?_eq_some_iff.1 hc
 obtain ⟨hj, rfl⟩ := w_
 exact h i j hi hj hij
noncomputable def bindL (bs : List B) (v : Int) (x : T) (k : Nat) : List B := insAt (bs.map fun b => ⟨b.var, b.to.ap (T.one v x)⟩) ⟨v, x⟩ k
theorem bindL_mem {bs : List B} {v : Int} {x : T} {k : Nat} {c : B} : c ∈ bindL bs v x k ↔ c = ⟨v, x⟩ ∨ ∃ b ∈ bs, c = ⟨b.var, b.to.ap (T.one v x)⟩ := by
 rw [bindL, insAt_mem, List.mem_map]
 constructor
 ·rintro (h | ⟨b, hb, rfl⟩)
  ·exact .inl h
  ·exact .inr ⟨b, hb, rfl⟩
 ·rintro (h | ⟨b, hb, rfl⟩)
  ·exact .inl h
  ·exact .inr ⟨b, hb, rfl⟩
structure PlaceOf (bs : List B) (v : Int) (k : Nat) : Prop where
 lo : ∀ b ∈ bs.take k, b.var < v
 hi : ∀ b ∈ bs.drop k, v < b.var
theorem bindL_srt {bs : List B} {v : Int} {x : T} {k : Nat} (hs : Srt bs) (hk : PlaceOf bs v k) : Srt (bindL bs v x k) := by
 refine srt_of_pw ?_
 have hp := hs.pw
 rw [← List.take_append_drop k bs, List.pairwise_append] at hp
 rw [bindL, insAt, ← List.map_take, ← List.map_drop, List.pairwise_append, List.pairwise_map]
 refine ⟨hp.1, ?_, fun a ha b hb => ?_⟩
 ·refine List.pairwise_cons.2 ⟨fun b hb => ?_, ?_⟩
  rotate_left
  ·show List.Pairwise _ (List.map _ _)
   rw [List.pairwise_map]; exact hp.2.1
  have w_ := List.mem_map.1 hb
  obtain ⟨c, hc, rfl⟩ := w_
  exact hk.hi c hc
 ·have w_ := List.mem_map.1 ha
  obtain ⟨c, hc, rfl⟩ := w_
  rcases List.mem_cons.1 hb with rfl | hb
  ·exact hk.lo c hc
  ·have w_ := List.mem_map.1 hb
   obtain ⟨d, hd, rfl⟩ := w_
   exact hp.2.2 c hc d hd
theorem SolL.bind {bs : List B} {E : List (T × T)} (h : SolL bs E) {a b : T} {v : Int} {x : T} {k : Nat} (ha : a.ap (asF bs) = .var v) (hb : b.ap (asF bs) = x) (ho : ¬ x.occ v) (hl : ∀ m, x = .var m → m < v) (hk : PlaceOf bs v k) (hv : asF bs v = .var v) :
  SolL (bindL bs v x k) ((a, b) :: E) := by
 have hn : sub bs v = none := by
  cases e : sub bs v with
  | none => rfl
  | some y =>
   have h1 := h.proper _ (sub_in e)
   rw [asF, e] at hv
   exact absurd hv h1
 have e : asF (bindL bs v x k) = fun n => (asF bs n).ap (T.one v x) := asF_bind hn
 have hS := h.sol.bind ha hb ho hl
 refine ⟨bindL_srt h.srt hk, fun c hc => ?_, by rw [e]; exact hS⟩
 rcases bindL_mem.1 hc with rfl | ⟨d, hd, rfl⟩
 ·intro k2
  have k2 : x = .var v := k2
  exact ho (by rw [k2]; rfl)
 ·have h1 := h.sol.stays hS (fun e he => List.mem_cons_of_mem _ he) ((asF_bound h.srt h.proper).2 ⟨d, hd, rfl⟩)
  have h2 : asF bs d.var = d.to := by rw [asF, sub_of_mem h.srt.pw hd]; rfl
  have h1 : (asF bs d.var).ap (T.one v x) ≠ .var d.var := h1
  rwa [h2] at h1
end Go.Vx
namespace Go.Vx
open Go.Proofs Classical
def Out (E : List (T × T)) : Option (List B) → Prop
 | some bs => SolL bs E
 | none => ∀ F bt, SolL bt F → SolvesE (asF bt) E → ¬ FitsL bt
theorem Out.none_mono {E E' : List (T × T)} (h : Out E none) (k : ∀ t, SolvesE t E' → SolvesE t E) : Out E' none := fun F bt hb hE => h F bt hb (k _ hE)
theorem Out.same {E E' : List (T × T)} {o : Option (List B)} (h : Out E o) (k : ∀ t, SolvesE t E ↔ SolvesE t E') : Out E' o := by
 cases o with
 | none => exact Out.none_mono h fun t => (k t).2
 | some bs => exact ⟨h.srt, h.proper, h.sol.same k⟩
end Go.Vx
namespace Go.Vx
open Go.Proofs Classical
theorem same_of_free {s t : Int → T} {E F : List (T × T)} (hs : Solved s E) (ht : Solved t F) (h : ∀ e ∈ E, e ∈ F) {N : List Int} (hN : ∀ n, t n ≠ .var n → n ∈ N) (e : freeN N s ≤ freeN N t) : t = s := by
 have h1 : ∀ n, s n = .var n → t n = .var n := fun n k => Classical.byContradiction fun g => by
  have := freeN_lt hs ht h (hN n g) k g
  omega
 have hE : SolvesE t E := fun x hx => ht.sol x (h x hx)
 funext n
 rw [← hs.gen t hE n]
 exact (T.ap_congr (t := T.var) fun m k => h1 m (hs.self k)).trans (T.ap_var _)
def T.inN (N : List Int) (x : T) : Prop := ∀ n, x.occ n → n ∈ N
def InN (N : List Int) (bs : List B) : Prop := ∀ b ∈ bs, b.var ∈ N ∧ b.to.inN N
theorem T.inN_pair {N : List Int} {a b : T} : (T.pair a b).inN N ↔ a.inN N ∧ b.inN N := ⟨fun h => ⟨fun n k => h n (.inl k), fun n k => h n (.inr k)⟩, fun h n k => k.elim (h.1 n) (h.2 n)⟩
theorem T.occ_ap {s : Int → T} {n : Int} : ∀ {x : T}, (x.ap s).occ n → ∃ m, x.occ m ∧ (s m).occ n
 | .var m, h => ⟨m, rfl, h⟩
 | .pair a b, h => by
  rcases h with h | h
  ·obtain ⟨m, h1, h2⟩ := T.occ_ap (x := a) h; exact ⟨m, .inl h1, h2⟩
  ·obtain ⟨m, h1, h2⟩ := T.occ_ap (x := b) h; exact ⟨m, .inr h1, h2⟩
 | .nil, h => h.elim
 | .sym _, h => h.elim
 | .num _, h => h.elim
theorem InN.asF {N : List Int} {bs : List B} (h : InN N bs) {n m : Int} (hn : n ∈ N) (k : (asF bs n).occ m) : m ∈ N := by
 rw [Go.Vx.asF] at k
 cases e : sub bs n with
 | none =>
  rw [e] at k
  have k : n = m := k
  rw [← k]; exact hn
 | some x =>
  rw [e] at k
  exact (h _ (sub_in e)).2 m k
theorem InN.ap {N : List Int} {bs : List B} (h : InN N bs) {x : T} (hx : x.inN N) : (x.ap (Go.Vx.asF bs)).inN N := fun n k => by
 have w_ := T.occ_ap k
 obtain ⟨m, h1, h2⟩ := w_
 exact h.asF (hx m h1) h2
theorem InN.bind {N : List Int} {bs : List B} (h : InN N bs) {v : Int} {x : T} {k : Nat} (hv : v ∈ N) (hx : x.inN N) : InN N (bindL bs v x k) := fun c hc => by
 rcases bindL_mem.1 hc with rfl | ⟨b, hb, rfl⟩
 ·exact ⟨hv, hx⟩
 ·refine ⟨(h b hb).1, fun n hn => ?_⟩
  have w_ := T.occ_ap hn
  obtain ⟨m, h1, h2⟩ := w_
  rw [T.one] at h2
  split at h2
  ·exact hx n h2
  ·have h2 : m = n := h2
   rw [← h2]; exact (h b hb).2 m h1
theorem InN.bound {N : List Int} {bs : List B} (h : InN N bs) (hs : Srt bs) (hp : Proper bs) (n : Int) (k : Go.Vx.asF bs n ≠ .var n) : n ∈ N := by
 have w_ := (asF_bound hs hp).1 k
 obtain ⟨b, hb, rfl⟩ := w_
 exact (h b hb).1
theorem SolL.step {bs bt : List B} {E F : List (T × T)} (h : SolL bs E) (k : SolL bt F) (hEF : ∀ e ∈ E, e ∈ F) {N : List Int} (hN : InN N bt) : freeN N (asF bt) < freeN N (asF bs) ∨ bt = bs := by
 by_cases e : freeN N (asF bs) ≤ freeN N (asF bt)
 ·right
  exact asF_inj k.srt h.srt k.proper h.proper (same_of_free h.sol k.sol hEF (hN.bound k.srt k.proper) e)
 ·left; omega
end Go.Vx
namespace Go.Vx
open Go.Proofs Classical
structure Cl where
 rep : Int → Int
 shp : Int → Option T
structure Cl.Ok (c : Cl) (rank : Int → Nat) : Prop where
 idem : ∀ v, c.rep (c.rep v) = c.rep v
 le : ∀ v, c.rep v ≤ v
 root : ∀ x t, c.shp x = some t → c.rep x = x
 nv : ∀ x t, c.shp x = some t → ∀ m, t ≠ .var m
 acy : ∀ x t, c.shp x = some t → ∀ v, t.occ v → rank (c.rep v) < rank x
def Cl.IsVal (c : Cl) (val : Int → T) : Prop := ∀ v, val v = match c.shp (c.rep v) with | some t => t.ap val | none => .var (c.rep v)
section
variable {c : Cl} {rank : Int → Nat}
variable {val : Int → T}
theorem Cl.IsVal.shaped (hv : c.IsVal val) {v : Int} {t : T} (e : c.shp (c.rep v) = some t) : val v = t.ap val := by have := hv v; rwa [e] at this
theorem Cl.IsVal.plain (hv : c.IsVal val) {v : Int} (e : c.shp (c.rep v) = none) : val v = .var (c.rep v) := by have := hv v; rwa [e] at this
theorem Cl.IsVal.rep (h : c.Ok rank) (hv : c.IsVal val) (v : Int) : val (c.rep v) = val v := by
 rw [hv v, hv (c.rep v), h.idem]
def Cl.Sol (c : Cl) (θ : Int → T) : Prop := (∀ v, θ (c.rep v) = θ v) ∧ ∀ x t, c.shp x = some t → θ x = t.ap θ
theorem Cl.IsVal.sol (h : c.Ok rank) (hv : c.IsVal val) : c.Sol val := ⟨hv.rep h, fun x t e => hv.shaped (by rw [h.root x t e]; exact e)⟩
theorem Cl.IsVal.gen (h : c.Ok rank) (hv : c.IsVal val) {θ : Int → T} (hθ : c.Sol θ) : ∀ (n : Nat) (v : Int), rank (c.rep v) < n → (val v).ap θ = θ v
 | 0, _, h1 => by omega
 | n + 1, v, h1 => by
  cases e : c.shp (c.rep v) with
  | none => rw [hv.plain e]; exact hθ.1 v
  | some t =>
   rw [hv.shaped e, T.ap_ap, T.ap_congr (t := θ) fun u hu => Cl.IsVal.gen h hv hθ n u (by have := h.acy _ _ e u hu; omega), ← hθ.2 _ _ e, hθ.1]
theorem T.occ_of_ap {s : Int → T} {x n : Int} : ∀ {t : T}, t.occ n → (s n).occ x → (t.ap s).occ x
 | .var m, h, k => by have h : m = n := h; subst h; exact k
 | .pair a b, h, k => h.elim (fun h => .inl (T.occ_of_ap h k)) (fun h => .inr (T.occ_of_ap h k))
 | .nil, h, _ => h.elim
 | .sym _, h, _ => h.elim
 | .num _, h, _ => h.elim
def Cl.Closed (c : Cl) (x : Int) (S : Int → Prop) : Prop := ∀ r, S r → ∀ t, c.shp r = some t → ∀ u, t.occ u → c.rep u ≠ x ∧ (c.shp (c.rep u) ≠ none → S (c.rep u))
end
end Go.Vx
namespace Go.Vx
open Go.Proofs Classical
theorem RowO.cell {h : Mem} {r cap : Nat} {ty : TypeId} {es : Nat} {xs : List Value} {k j : Nat} {x u : Value} (hr : RowO h r cap ty es xs) (hx : xs[k]? = some x) (hu : (vcells x)[j]? = some u) : h.cell ⟨r, k * es + j, none⟩ = some u := by
 obtain ⟨cs, hc, h1, h2, h3, h4, h5⟩ := hr
 obtain ⟨A, B, rfl, hA⟩ : ∃ A B, xs = A ++ x :: B ∧ A.length = k := ⟨xs.take k, xs.drop (k + 1), by
  rw [← (List.getElem?_eq_some_iff.1 hx).2]
  rw [List.getElem_cons_drop, List.take_append_drop], by rw [List.length_take]; have := (List.getElem?_eq_some_iff.1 hx).1; omega⟩
 subst hA
 have fA : (A.flatMap vcells).length = A.length * es := flat_len A fun y hy => (h3 y (by simp [hy])).1
 have hj := (List.getElem?_eq_some_iff.1 hu).1
 obtain ⟨rest, hrest⟩ : ∃ rest, cs = A.flatMap vcells ++ (vcells x ++ rest) := ⟨B.flatMap vcells ++ cs.drop ((A ++ x :: B).length * es), by
  have h6 := List.take_append_drop ((A ++ x :: B).length * es) cs
  rw [h5] at h6
  refine h6.symm.trans ?_
  simp⟩
 have e : cs[A.length * es + j]? = some u := by
  rw [hrest, List.getElem?_append_right (by omega), fA, show A.length * es + j - A.length * es = j by omega, List.getElem?_append_left hj, hu]
 simp [Mem.cell, hc, e]
end Go.Vx
namespace Go.Vx
open Go.Proofs Classical
inductive Cl.Reach (c : Cl) (x : Int) : Int → Prop
 | here : Cl.Reach c x x
 | step {r : Int} {t : T} {u : Int} : r ≠ x → c.shp r = some t → t.occ u → Cl.Reach c x (c.rep u) → Cl.Reach c x r
def Cl.TReach (c : Cl) (x : Int) (t : T) : Prop := ∃ u, t.occ u ∧ c.Reach x (c.rep u)
section
variable {c : Cl} {rank : Int → Nat} {val : Int → T}
theorem Cl.Reach.root (h : c.Ok rank) {x r : Int} (hx : c.rep x = x) (k : c.Reach x r) : c.rep r = r := by
 cases k with
 | here => exact hx
 | step _ h2 _ _ => exact h.root _ _ h2
theorem Cl.Reach.occ (h : c.Ok rank) (hv : c.IsVal val) {x : Int} (hx : c.rep x = x) (hs : c.shp x = none) {r : Int} (k : c.Reach x r) : (val r).occ x := by
 induction k with
 | here => rw [hv.plain (by rw [hx]; exact hs), hx]; rfl
 | step h1 h2 h3 _ ih =>
  rw [hv.shaped (by rw [h.root _ _ h2]; exact h2)]
  exact T.occ_of_ap h3 (by rw [← hv.rep h]; exact ih)
theorem Cl.TReach.occ (h : c.Ok rank) (hv : c.IsVal val) {x : Int} (hx : c.rep x = x) (hs : c.shp x = none) {t : T} (k : c.TReach x t) : (t.ap val).occ x := by
 obtain ⟨u, h1, h2⟩ := k
 exact T.occ_of_ap h1 (by rw [← hv.rep h]; exact h2.occ h hv hx hs)
def Cl.Shut (c : Cl) (x : Int) (t : T) : Prop := ∃ S : Int → Prop, c.Closed x S ∧ (∀ r, S r → r ≠ x) ∧ ∀ u, t.occ u → c.rep u ≠ x ∧ (c.shp (c.rep u) ≠ none → S (c.rep u))
end
structure Cl.In (N : List Int) (P : T → Prop) (c : Cl) : Prop where
 rep : ∀ v ∈ N, c.rep v ∈ N
 out : ∀ v, v ∉ N → c.rep v = v
 shp : ∀ x t, c.shp x = some t → x ∈ N ∧ P t
def Cl.Good (c : Cl) : Prop := ∃ rank, c.Ok rank
noncomputable def Cl.M (N : List Int) (c : Cl) : Nat := (N.filter fun v => decide (c.rep v = v)).length + (N.filter fun v => decide (c.rep v = v ∧ c.shp v = none)).length
def EqR (N : List Int) (P : T → Prop) (c : Cl) (a b : T) : Bool → Cl → Prop
 | true, c' => c'.Good ∧ c'.In N P ∧ (∀ θ, c'.Sol θ ↔ c.Sol θ ∧ a.ap θ = b.ap θ) ∧ (c' = c ∨ c'.M N < c.M N)
 | false, _ => ∀ θ, ¬ (c.Sol θ ∧ a.ap θ = b.ap θ)
section
variable {N : List Int} {P : T → Prop} {c c1 c2 : Cl} {a b : T} {o : Bool}
theorem Cl.Good.same (hg : c.Good) (hi : c.In N P) (h : ∀ θ, c.Sol θ → a.ap θ = b.ap θ) : EqR N P c a b true c := ⟨hg, hi, fun θ => ⟨fun k => ⟨k, h θ k⟩, fun k => k.1⟩, .inl rfl⟩
theorem EqR.pair {a' b' : T} (h : EqR N P c a b true c1) (h2 : EqR N P c1 a' b' o c2) : EqR N P c (.pair a a') (.pair b b') o c2 := by
 have key : ∀ θ, (T.pair a a').ap θ = (T.pair b b').ap θ ↔ a.ap θ = b.ap θ ∧ a'.ap θ = b'.ap θ := fun θ => by
  rw [T.ap, T.ap, T.pair.injEq]
 cases o with
 | true =>
  refine ⟨h2.1, h2.2.1, fun θ => (h2.2.2.1 θ).trans ?_, ?_⟩
  ·rw [h.2.2.1 θ, key, and_assoc]
  ·rcases h.2.2.2 with rfl | h3
   ·exact h2.2.2.2
   ·rcases h2.2.2.2 with rfl | h4
    ·exact .inr h3
    ·exact .inr (by omega)
 | false =>
  intro θ k
  have k2 := (key θ).1 k.2
  exact h2 θ ⟨(h.2.2.1 θ).2 ⟨k.1, k2.1⟩, k2.2⟩
section
variable {x y : Int}
end
end
end Go.Vx
namespace Go.Vx
open Go.Proofs Classical
noncomputable def eqsB (bs : List B) : List (T × T) := bs.map fun b => (.var b.var, b.to)
theorem solves_eqsB {θ : Int → T} {bs : List B} : SolvesE θ (eqsB bs) ↔ ∀ b ∈ bs, θ b.var = b.to.ap θ := by
 unfold SolvesE eqsB
 constructor
 ·intro h b hb; exact h _ (List.mem_map.2 ⟨b, hb, rfl⟩)
 ·intro h e he
  have w_ := List.mem_map.1 he
  obtain ⟨b, hb, rfl⟩ := w_
  exact h b hb
theorem T.occ_vars {n : Int} : ∀ {x : T}, x.occ n ↔ n ∈ x.vars
 | .var m => by
  show m = n ↔ n ∈ [m]
  rw [List.mem_singleton]; exact eq_comm
 | .pair a b => by
  show a.occ n ∨ b.occ n ↔ n ∈ a.vars ++ b.vars
  rw [List.mem_append, T.occ_vars (x := a), T.occ_vars (x := b)]
 | .nil => ⟨fun h => h.elim, fun h => by simp [T.vars] at h⟩
 | .sym _ => ⟨fun h => h.elim, fun h => by simp [T.vars] at h⟩
 | .num _ => ⟨fun h => h.elim, fun h => by simp [T.vars] at h⟩
theorem valsOk_of {bs : List B} (h : Srt bs) (hl : bs.length ≤ 400) (hb : ∀ b ∈ bs, (0 ≤ b.var ∧ b.var ≤ 100000) ∧ b.to.good ∧ b.to.size ≤ 5000) : valsOk (bs.map B.bd) := by
 refine ⟨by rw [List.length_map]; exact hl, fun i b hi => ?_⟩
 rw [List.getElem?_map] at hi
 cases e : bs[i]? with
 | none => rw [e] at hi; cases hi
 | some c =>
  rw [e] at hi
  cases hi
  have h1 := hb c (mAt e)
  refine ⟨h1.1, T.ok.tm ⟨h1.2.1, h1.2.2⟩, fun j d hj hd => ?_⟩
  rw [List.getElem?_map] at hd
  cases e2 : bs[j]? with
  | none => rw [e2] at hd; cases hd
  | some c2 =>
   rw [e2] at hd
   cases hd
   exact h j i c2 c (by omega) e2 e
theorem Subst.solL {bs : List B} (h : Subst bs) : SolL bs (eqsB bs) := by
 have hpw := h.vals.srt.pw
 have hfix : ∀ b ∈ bs, b.to.ap (asF bs) = b.to := fun b hb => by
  refine (T.ap_congr (t := T.var) fun n hn => ?_).trans (T.ap_var _)
  rw [asF, (h.bnd b hb).2 n (T.occ_vars.1 hn)]; rfl
 have hat : ∀ b ∈ bs, asF bs b.var = b.to := fun b hb => by rw [asF, sub_of_mem hpw hb]; rfl
 refine ⟨h.vals.srt, fun b hb e => ?_, ⟨solves_eqsB.2 fun b hb => by rw [hat b hb, hfix b hb], fun t ht n => ?_, fun n m e => ?_⟩⟩
 ·refine (h.bnd b hb).1 ⟨by rw [e]; rfl, by rw [e]; exact Int.le_refl _⟩
 ·cases k : sub bs n with
  | none => rw [asF, k]; rfl
  | some x =>
   have hb := sub_in k
   rw [asF, k]
   exact (solves_eqsB.1 ht _ hb).symm
 ·cases k : sub bs n with
  | none => rw [asF, k] at e; cases e; exact Int.le_refl _
  | some x =>
   have hb := sub_in k
   rw [asF, k] at e
   have e : x = .var m := e
   refine Int.le_of_lt (Int.not_le.1 fun hle => (h.bnd _ hb).1 ⟨?_, ?_⟩)
   ·show x.tm.kind = 1; rw [e]; rfl
   ·show n ≤ x.tm.num; rw [e]; exact hle
theorem Vals.fits {bs : List B} (h : Vals bs) : FitsL bs := ⟨fun b hb => (h.tok b hb).2, h.len⟩
theorem SolL.subst {bs : List B} {E : List (T × T)} (h : SolL bs E) (hf : FitsL bs) (hg : ∀ b ∈ bs, b.to.good ∧ 0 ≤ b.var ∧ b.var ≤ 100000) : Subst bs := by
 refine ⟨⟨?_⟩, fun b hb => ⟨fun k => ?_, fun n hn => ?_⟩⟩
 ·refine valsOk_of h.srt hf.2 fun b hb => ⟨(hg b hb).2, (hg b hb).1, hf.1 b hb⟩
 ·obtain ⟨k1, k2⟩ := k
  have h1 : asF bs b.var = b.to := by rw [asF, sub_of_mem h.srt.pw hb]; rfl
  cases e : b.to with
  | var m =>
   rw [e] at h1 k2
   have := h.sol.least _ _ h1
   have k2 : b.var ≤ m := k2
   exact h.proper b hb (by rw [e, show m = b.var by omega])
  | _ => rw [e] at k1; simp [T.tm, Tm.kind] at k1
 ·have h1 : asF bs b.var = b.to := by rw [asF, sub_of_mem h.srt.pw hb]; rfl
  have h2 := h.sol.self (n := b.var) (m := n) (by rw [h1]; exact T.occ_vars.2 hn)
  cases k : sub bs n with
  | none => rfl
  | some x =>
   rw [asF, k] at h2
   exact absurd h2 (h.proper _ (sub_in k))
end Go.Vx
namespace Go.Vx
open Go.Proofs Classical
def Fr (l : List Nat) (h h' : Mem) : Prop := ∀ b, h b ≠ none → b ∉ l → h' b = h b
theorem Fr.refl (l : List Nat) (h : Mem) : Fr l h h := fun _ _ _ => rfl
theorem Fr.trans {l : List Nat} {h h' h'' : Mem} (a : Fr l h h') (b : Fr l h' h'') : Fr l h h'' := fun x hx hl => by
 have e := a x hx hl
 rw [b x (by rw [e]; exact hx) hl, e]
theorem Fr.weaken {l m : List Nat} {h h' : Mem} (a : Fr l h h') (k : ∀ x ∈ l, x ∈ m) : Fr m h h' := fun x hx hl => a x hx fun e => hl (k x e)
theorem Fr.set {l : List Nat} {h : Mem} {r : Nat} {o : Obj} (k : r ∈ l) : Fr l h (h.set r o) := fun x _ hl => Mem.set_ne fun e => hl (by rw [e]; exact k)
theorem Fr.new {l : List Nat} {h : Mem} {r : Nat} {o : Obj} (k : h r = none) : Fr l h (h.set r o) := fun x hx _ => Mem.set_ne fun e => hx (by rw [e]; exact k)
theorem Fr.at {l : List Nat} {h h' : Mem} (a : Fr l h h') {b : Nat} {o : Obj} (hb : h b = some o) (hl : b ∉ l) : h' b = some o := by
 rw [a b (by rw [hb]; exact fun k => nomatch k) hl, hb]
structure ClRefs where
 c : Nat
 u : Nat
 s : Nat
 d : Nat
 k : Nat
 z : Nat
 f : Nat
def ClRefs.l (R : ClRefs) : List Nat := [R.c, R.u, R.s, R.d, R.k, R.z, R.f]
structure ClAt (R : ClRefs) (h : Mem) (lu ls ld lk lz lf : List (Value × Value)) : Prop where
 nd : R.l.Nodup
 c : h R.c = some (.cells #[.map (some R.u), .map (some R.s), .map (some R.d), .map (some R.k), .map (some R.z), .map (some R.f)] 153 (0, 0))
 u : h R.u = some (mapO lu)
 s : h R.s = some (mapO ls)
 d : h R.d = some (mapO ld)
 k : h R.k = some (mapO lk)
 z : h R.z = some (mapO lz)
 f : h R.f = some (mapO lf)
section
variable {R : ClRefs} {h h' : Mem} {lu ls ld lk lz lf l : List (Value × Value)}
theorem ClAt.fr (a : ClAt R h lu ls ld lk lz lf) (k : ∀ b ∈ R.l, h' b = h b) : ClAt R h' lu ls ld lk lz lf :=
 ⟨a.nd, by rw [k _ (by simp [ClRefs.l])]; exact a.c, by rw [k _ (by simp [ClRefs.l])]; exact a.u, by rw [k _ (by simp [ClRefs.l])]; exact a.s, by rw [k _ (by simp [ClRefs.l])]; exact a.d, by rw [k _ (by simp [ClRefs.l])]; exact a.k, by rw [k _ (by simp [ClRefs.l])]; exact a.z, by rw [k _ (by simp [ClRefs.l])]; exact a.f⟩
theorem ClAt.dom (a : ClAt R h lu ls ld lk lz lf) : ∀ b ∈ R.l, h b ≠ none := fun b hb => by
 simp only [ClRefs.l, List.mem_cons, List.not_mem_nil, or_false] at hb
 rcases hb with rfl | rfl | rfl | rfl | rfl | rfl | rfl
 ·rw [a.c]; exact fun k => nomatch k
 ·rw [a.u]; exact fun k => nomatch k
 ·rw [a.s]; exact fun k => nomatch k
 ·rw [a.d]; exact fun k => nomatch k
 ·rw [a.k]; exact fun k => nomatch k
 ·rw [a.z]; exact fun k => nomatch k
 ·rw [a.f]; exact fun k => nomatch k
theorem ClAt.off (a : ClAt R h lu ls ld lk lz lf) {L : List Nat} (k : Fr L h h') (hL : ∀ b ∈ L, b ∉ R.l) : ClAt R h' lu ls ld lk lz lf :=
 a.fr fun b hb => k b (a.dom b hb) fun e => hL b e hb
end
structure UF (p rep : Int → Int) : Prop where
 le : ∀ v, p v ≤ v
 up : ∀ v, rep (p v) = rep v
 top : ∀ v, p v = v → rep v = v
def ShpAt (μ : Mem) (c : Cl) (ls ld : List (Value × Value)) : Prop := ∀ x, c.rep x = x → match c.shp x with
 | some t => mget ld (.int .i64 x) = some (.bool true) ∧ ∃ v, mget ls (.int .i64 x) = some v ∧ RepV μ t.tm.d v
 | none => mget ld (.int .i64 x) = none
theorem ShpAt.some {μ : Mem} {c : Cl} {ls ld : List (Value × Value)} (h : ShpAt μ c ls ld) {x : Int} {t : T} (hx : c.rep x = x) (e : c.shp x = some t) : mget ld (.int .i64 x) = some (.bool true) ∧ ∃ v, mget ls (.int .i64 x) = some v ∧ RepV μ t.tm.d v := by
 have := h x hx
 rwa [e] at this
theorem ShpAt.none {μ : Mem} {c : Cl} {ls ld : List (Value × Value)} (h : ShpAt μ c ls ld) {x : Int} (hx : c.rep x = x) (e : c.shp x = .none) : mget ld (.int .i64 x) = .none := by
 have := h x hx
 rwa [e] at this
theorem ShpAt.mono {μ μ' : Mem} {c : Cl} {ls ld : List (Value × Value)} (h : ShpAt μ c ls ld) (hle : μ.Le μ') : ShpAt μ' c ls ld := fun x hx => by
 cases e : c.shp x with
 | none => exact h.none hx e
 | some t =>
  have w_ := h.some hx e
  obtain ⟨h1, v, h2, h3⟩ := w_
  exact ⟨h1, v, h2, h3.mono hle⟩
structure UpAt (c : Cl) (K : List Int) (lu : List (Value × Value)) : Prop where
 ok : MapOk IntKey lu
 at_ : ∃ p : Int → Int, UF p c.rep ∧ (∀ n, mget lu (.int .i64 n) = if n ∈ K then some (.int .i64 (p n)) else none) ∧ (∀ n, n ∉ K → p n = n) ∧ ∀ n ∈ K, p n ∈ K
structure ClInv (μ : Mem) (R : ClRefs) (c : Cl) (K : List Int) (lk lz lf : List (Value × Value)) (h : Mem) : Prop where
 ex : ∃ lu ls ld, ClAt R h lu ls ld lk lz lf ∧ UpAt c K lu ∧ MapOk IntKey ls ∧ MapOk IntKey ld ∧ ShpAt μ c ls ld
section
variable {μ : Mem} {R : ClRefs} {c : Cl} {K : List Int} {lk lz lf : List (Value × Value)} {h h' : Mem}
theorem ClInv.mono {μ' : Mem} (a : ClInv μ R c K lk lz lf h) (hle : μ.Le μ') : ClInv μ' R c K lk lz lf h := by
 obtain ⟨lu, ls, ld, h1, h2, h3, h4, h5⟩ := a.ex
 exact ⟨lu, ls, ld, h1, h2, h3, h4, h5.mono hle⟩
theorem ClInv.off (a : ClInv μ R c K lk lz lf h) {L : List Nat} (k : Fr L h h') (hL : ∀ b ∈ L, b ∉ R.l) : ClInv μ R c K lk lz lf h' := by
 obtain ⟨lu, ls, ld, h1, h2, h3, h4, h5⟩ := a.ex
 exact ⟨lu, ls, ld, h1.off k hL, h2, h3, h4, h5⟩
theorem ClInv.dom (a : ClInv μ R c K lk lz lf h) : ∀ b ∈ R.l, h b ≠ none := by
 obtain ⟨lu, ls, ld, h1, _⟩ := a.ex
 exact h1.dom
end
theorem fld_at {h : Mem} {r i : Nat} {cs : List Value} {x : Value} {ty : TypeId} (hc : h r = some (.cells cs.toArray ty (0, 0))) (hi : cs[i]? = some x) : ∀ j v, [x][j]? = some v → h.cell ((⟨r, i, none⟩ : Addr).add j) = some v := fun j v hj => by
 match j, hj with
 | 0, hj => cases hj; simp [Mem.cell, Addr.add_lit', hc, hi]
section
variable {μ : Mem}
end
end Go.Vx
namespace Go.Vx
open Go.Proofs Classical
def ClosedAt (c : Cl) (x r : Int) (S : List Int) : Prop := ∀ t, c.shp r = some t → ∀ u, t.occ u → c.rep u ≠ x ∧ (c.shp (c.rep u) ≠ none → c.rep u ∈ S)
theorem ClosedAt.mono {c : Cl} {x r : Int} {S S' : List Int} (h : ClosedAt c x r S) (k : ∀ n ∈ S, n ∈ S') : ClosedAt c x r S' := fun t ht u hu => ⟨(h t ht u hu).1, fun e => k _ ((h t ht u hu).2 e)⟩
structure GrownS (c : Cl) (x : Int) (K S S' : List Int) : Prop where
 sub : ∀ n ∈ S, n ∈ S'
 new : ∀ r ∈ S', r ∉ S → r ≠ x ∧ r ∈ K ∧ ClosedAt c x r S'
theorem GrownS.refl (c : Cl) (x : Int) (K S : List Int) : GrownS c x K S S := ⟨fun _ h => h, fun _ h k => absurd h k⟩
theorem GrownS.trans {c : Cl} {x : Int} {K S S' S'' : List Int} (h : GrownS c x K S S') (k : GrownS c x K S' S'') : GrownS c x K S S'' :=
 ⟨fun n hn => k.sub n (h.sub n hn), fun r hr hs => by
  by_cases e : r ∈ S'
  ·have := h.new r e hs; exact ⟨this.1, this.2.1, this.2.2.mono k.sub⟩
  ·exact k.new r hr e⟩
def CoverV (c : Cl) (x : Int) (S : List Int) (u : Int) : Prop := c.rep u ≠ x ∧ (c.shp (c.rep u) ≠ none → c.rep u ∈ S)
theorem CoverV.mono {c : Cl} {x u : Int} {S S' : List Int} (h : CoverV c x S u) (k : ∀ n ∈ S, n ∈ S') : CoverV c x S' u := ⟨h.1, fun e => k _ (h.2 e)⟩
def ReachR (c : Cl) (x : Int) (K S S' : List Int) (vs : List Int) (G : Prop) : Bool → Prop
 | true => G
 | false => GrownS c x K S S' ∧ ∀ u ∈ vs, CoverV c x S' u
theorem GrownS.add {c : Cl} {x r : Int} {K S S' : List Int} {t : T} (hr : r ≠ x) (hK : r ∈ K) (ht : c.shp r = some t) (h : GrownS c x K (S ++ [r]) S') (hc : ∀ u ∈ t.vars, CoverV c x S' u) : GrownS c x K S S' :=
 ⟨fun n hn => h.sub n (by simp [hn]), fun n hn hs => by
  by_cases e : n = r
  ·subst e
   refine ⟨hr, hK, fun t' ht' u hu => ?_⟩
   rw [ht] at ht'
   cases ht'
   exact hc u (T.occ_vars.1 hu)
  ·exact h.new n hn (by simp [hs, e])⟩
theorem Shut.of {c : Cl} {x : Int} {K S' : List Int} {t : T} (h : ReachR c x K [] S' t.vars (c.TReach x t) false) : c.Shut x t :=
 ⟨fun r => r ∈ S', fun r hr => (h.1.new r hr (by simp)).2.2, fun r hr => (h.1.new r hr (by simp)).1, fun u hu => h.2 u (T.occ_vars.1 hu)⟩
section
end
structure SeenAt (lm : List (Value × Value)) (S : List Int) : Prop where
 ok : MapOk IntKey lm
 get : ∀ n, mget lm (.int .i64 n) = if n ∈ S then some (.bool true) else none
theorem SeenAt.nil : SeenAt [] [] := ⟨MapOk.nil, fun _ => rfl⟩
theorem SeenAt.add {lm : List (Value × Value)} {S : List Int} (h : SeenAt lm S) (r : Int) : SeenAt (mset lm (.int .i64 r) (.bool true)) (S ++ [r]) :=
 ⟨h.ok.int _, fun n => by
  rw [mget_int, h.get]
  by_cases e : n = r
  ·rw [if_pos e, if_pos (by simp [e])]
  ·rw [if_neg e]
   by_cases k : n ∈ S
   ·rw [if_pos k, if_pos (by simp [k])]
   ·rw [if_neg k, if_neg (by simp [k, e])]⟩
section
variable {R : ClRefs} {c : Cl} {K : List Int} {lk lz lf : List (Value × Value)} {P : T → Prop} {x : Int}
structure RchInv (μ : Mem) (R : ClRefs) (c : Cl) (K : List Int) (lk lz lf : List (Value × Value)) (x : Int) (rm rf : Nat) (G : Prop) (S : List Int) (h0 : Mem) (pre : List Int) (h : Mem) : Prop where
 cl : ClInv μ R c K lk lz lf h
 ex : ∃ b S' lm, h rm = some (mapO lm) ∧ SeenAt lm S' ∧ h rf = some (.cells #[.bool b] 4 (0, 0)) ∧ ReachR c x K S S' pre G b
 fr : Fr [R.u, rm, rf] h0 h
end
end Go.Vx
namespace Go.Vx
open Go.Proofs Classical
def PK (Q : T → Prop) (K : List Int) (t : T) : Prop := t.inN K ∧ Q t
theorem PK.pair {Q : T → Prop} (hQ : ∀ a b, Q (.pair a b) → Q a ∧ Q b) {K : List Int} (a b : T) (h : PK Q K (.pair a b)) : PK Q K a ∧ PK Q K b :=
 ⟨⟨(T.inN_pair.1 h.1).1, (hQ a b h.2).1⟩, (T.inN_pair.1 h.1).2, (hQ a b h.2).2⟩
theorem T.inN_mono {N N' : List Int} {x : T} (h : x.inN N) (k : ∀ n ∈ N, n ∈ N') : x.inN N' := fun n hn => k n (h n hn)
theorem Cl.In.mono {c : Cl} {Q : T → Prop} {K K' : List Int} (h : c.In K (PK Q K)) (k : ∀ n ∈ K, n ∈ K') : c.In K' (PK Q K') where
 rep v hv := by
  by_cases e : v ∈ K
  ·exact k _ (h.rep v e)
  ·rw [h.out v e]; exact hv
 out v hv := h.out v fun e => hv (k v e)
 shp x t e := ⟨k x (h.shp x t e).1, T.inN_mono (h.shp x t e).2.1 k, (h.shp x t e).2.2⟩
section
variable {μ : Mem} {R : ClRefs} {c : Cl} {K : List Int} {lk lz lf : List (Value × Value)}
end
end Go.Vx
namespace Go.Vx
open Go.Proofs Classical
def szc (t : T) : Int := ((min t.size 5001 : Nat) : Int)
section
end
structure Wt (val : Int → T) (col : Int → Nat) (lk lz : List (Value × Value)) : Prop where
 okk : MapOk IntKey lk
 okz : MapOk IntKey lz
 le : ∀ n, col n ≤ 2
 get : ∀ n, mget lk (.int .i64 n) = if col n = 0 then none else some (.int .i64 (col n))
 siz : ∀ n, col n = 2 → mget lz (.int .i64 n) = some (.int .i64 (szc (val n)))
theorem Wt.nil (val : Int → T) : Wt val (fun _ => 0) [] [] := ⟨MapOk.nil, MapOk.nil, fun _ => Nat.zero_le _, fun _ => rfl, fun n h => by simp at h⟩
theorem Wt.size {val : Int → T} {col : Int → Nat} {lk lz : List (Value × Value)} (h : Wt val col lk lz) {x : Int} (hx : col x ≠ 2) (v : Value) : Wt val col lk (mset lz (.int .i64 x) v) :=
 ⟨h.okk, h.okz.int _, h.le, h.get, fun n hn => by
  rw [mget_int, if_neg (fun e => by subst e; exact hx hn)]; exact h.siz n hn⟩
section
variable {R : ClRefs} {c : Cl} {K : List Int} {lf : List (Value × Value)} {Q : T → Prop} {rank : Int → Nat} {val : Int → T}
structure WOut (R : ClRefs) (c : Cl) (K : List Int) (lf : List (Value × Value)) (val : Int → T) (col : Int → Nat) (μ h : Mem) (col' : Int → Nat) (L : List Nat) (h0 : Mem) : Prop where
 ex : ∃ lk lz, ClInv μ R c K lk lz lf h ∧ Wt val col' lk lz
 keep : ∀ z, col z ≠ 0 → col' z = col z
 grey : ∀ z, col' z = 1 → col z = 1
 fr : Fr L h0 h
end
end Go.Vx
namespace Go.Vx
open Go.Proofs Classical
structure FAt (μ : Mem) (val : Int → T) (lf : List (Value × Value)) : Prop where
 ok : MapOk IntKey lf
 rep : ∀ z v, mget lf (.int .i64 z) = some v → RepV μ (val z).tm.d v
theorem FAt.nil (μ : Mem) (val : Int → T) : FAt μ val [] := ⟨MapOk.nil, fun _ _ h => nomatch h⟩
theorem FAt.mono {μ μ' : Mem} {val : Int → T} {lf : List (Value × Value)} (h : FAt μ val lf) (hle : μ.Le μ') : FAt μ' val lf := ⟨h.ok, fun z v e => (h.rep z v e).mono hle⟩
theorem FAt.add {μ : Mem} {val : Int → T} {lf : List (Value × Value)} (h : FAt μ val lf) {x : Int} {v : Value} (hv : RepV μ (val x).tm.d v) : FAt μ val (mset lf (.int .i64 x) v) := ⟨h.ok.int _, fun z w e => by
 rw [mget_int] at e
 by_cases k : z = x
 ·subst k; rw [if_pos rfl] at e; cases e; exact hv
 ·rw [if_neg k] at e; exact h.rep z w e⟩
section
variable {R : ClRefs} {c : Cl} {K : List Int} {lk lz : List (Value × Value)} {Q : T → Prop} {rank : Int → Nat} {val : Int → T}
end
end Go.Vx
namespace Go.Vx
open Go.Proofs Classical
noncomputable def evars (E : List (T × T)) : List Int := E.flatMap fun e => e.1.vars ++ e.2.vars
def BuiltOf (Q : T → Prop) (y : List B) : Prop := ∀ n, (∃ m, asF y n = .var m) ∨ ∃ s, Q s ∧ (∀ m, s ≠ .var m) ∧ asF y n = s.ap (asF y)
structure SolI (Q : T → Prop) (E : List (T × T)) (y : List B) : Prop where
 sol : SolL y E
 built : BuiltOf Q y
 vars : ∀ b ∈ y, b.var ∈ evars E
 good : ∀ b ∈ y, b.to.good ∧ 0 ≤ b.var ∧ b.var ≤ 100000
theorem T.good_ap {s : Int → T} : ∀ {t : T}, (∀ n, t.occ n → (s n).good) → t.good → (t.ap s).good
 | .var n, h, _ => h n rfl
 | .pair _ _, h, k => ⟨T.good_ap (fun n hn => h n (.inl hn)) k.1, T.good_ap (fun n hn => h n (.inr hn)) k.2⟩
 | .nil, _, _ => trivial
 | .sym _, _, k => k
 | .num _, _, k => k
section
variable {μ : Mem} {Q : T → Prop}
structure SolSt (Q : T → Prop) (R : ClRefs) (E : List (T × T)) (μ h : Mem) : Prop where
 ex : ∃ c K, ClInv μ R c K [] [] [] h ∧ c.Good ∧ c.In K (PK Q K) ∧ (∀ θ, c.Sol θ ↔ SolvesE θ E) ∧ (∀ n, n ∈ K ↔ n ∈ evars E) ∧ ∀ n ∈ K, 0 ≤ n ∧ n ≤ 100000
end
end Go.Vx
namespace Go.Vx
open Go.Proofs Classical
def genF (d e : List B) : Prop := SolvesE (asF e) (eqsB d)
theorem genF_iff {d e : List B} : genF d e ↔ ∀ b ∈ d, asF e b.var = b.to.ap (asF e) := solves_eqsB
def failF (d : List B) (θ : Int → T) : Prop := ¬ SolvesE θ (eqsB d)
section
variable {d e f : List B}
theorem genF.solves (he : Subst e) (h : genF d e) {θ : Int → T} (k : SolvesE θ (eqsB e)) : SolvesE θ (eqsB d) := by
 rw [solves_eqsB] at *
 have hg := he.solL.sol.gen θ (solves_eqsB.2 k)
 intro b hb
 have h1 := genF_iff.1 h b hb
 rw [← hg b.var, h1, T.ap_ap]
 exact T.ap_congr fun n _ => hg n
theorem genF.trans (he : Subst e) (h : genF d e) (k : genF e f) : genF d f := h.solves he k
theorem genF.refl (he : Subst e) : genF e e := he.solL.sol.sol
theorem genF.anti (hd : Subst d) (he : Subst e) (h : genF d e) (k : genF e d) : d = e :=
 hd.solL.uniq ⟨he.solL.srt, he.solL.proper, he.solL.sol.same fun _ => ⟨fun q => h.solves he q, fun q => k.solves hd q⟩⟩
theorem genF.fail (he : Subst e) (h : genF d e) {θ : Int → T} (k : failF d θ) : failF e θ := fun q => k (h.solves he q)
end
structure LeastOf (L M : List (List B)) : Prop where
 asc : Asc3 cmpB M
 mem : ∀ x, x ∈ M ↔ x ∈ L ∧ ∀ d ∈ L, d = x ∨ ¬ genF d x
section
variable {L M : List (List B)}
theorem LeastOf.below (h : LeastOf L M) (hL : ∀ d ∈ L, Subst d) {e : List B} (he : e ∈ L) : ∃ m ∈ M, genF m e := by
 have key : ∀ (n : Nat) (K : List (List B)), K.length ≤ n → (∀ d ∈ K, d ∈ L) → (∀ d ∈ L, ∀ k ∈ K, genF d k → d ∈ K) → ∀ e ∈ K, ∃ m ∈ M, genF m e := fun n => by
  induction n with
  | zero => intro K hK _ _ e he; rw [List.length_eq_zero_iff.1 (Nat.le_zero.1 hK)] at he; simp at he
  | succ n ih =>
   intro K hK hKL hdown e he
   by_cases hm : ∀ d ∈ L, d = e ∨ ¬ genF d e
   ·exact ⟨e, (h.mem e).2 ⟨hKL e he, hm⟩, genF.refl (hL e (hKL e he))⟩
   ·have ⟨d, hd⟩ := Classical.not_forall.1 hm
    have ⟨hdL, hd2⟩ := Classical.not_imp.1 hd
    have ⟨hne, hde⟩ := not_or.1 hd2
    have hde := Classical.not_not.1 hde
    have heS := hL e (hKL e he)
    have hlt : (K.filter fun x => decide (¬ genF e x)).length < K.length := by
     have := filter_lt (l := K) (p := fun x => decide (¬ genF e x)) (q := fun _ => true) (fun _ _ _ => rfl) e he (decide_eq_false fun k => k (genF.refl heS)) rfl
     rwa [List.filter_eq_self.2 (fun _ _ => rfl)] at this
    have hdK : d ∈ K.filter fun x => decide (¬ genF e x) := List.mem_filter.2 ⟨hdown d hdL e he hde, decide_eq_true fun k => hne (genF.anti (hL d hdL) heS hde k)⟩
    obtain ⟨m, hm1, hm2⟩ := ih _ (by omega) (fun x hx => hKL x (List.mem_filter.1 hx).1) (fun x hx k hk hxk => by
     have hk' := List.mem_filter.1 hk
     refine List.mem_filter.2 ⟨hdown x hx k hk'.1 hxk, decide_eq_true fun q => ?_⟩
     exact of_decide_eq_true hk'.2 (q.trans (hL x hx) hxk)) d hdK
    exact ⟨m, hm1, hm2.trans (hL d hdL) hde⟩
 exact key L.length L (Nat.le_refl _) (fun _ h => h) (fun d hd _ _ _ => hd) e he
theorem LeastOf.all (h : LeastOf L M) (hL : ∀ d ∈ L, Subst d) (θ : Int → T) : (∀ d ∈ L, failF d θ) ↔ ∀ d ∈ M, failF d θ := by
 constructor
 ·intro k d hd; exact k d ((h.mem d).1 hd).1
 ·intro k e he
  have w_ := h.below hL he
  obtain ⟨m, hm, hme⟩ := w_
  exact hme.fail (hL e he) (k m hm)
theorem LeastOf.apart (h : LeastOf L M) {d e : List B} (hd : d ∈ M) (he : e ∈ M) (hne : d ≠ e) : ¬ genF d e := by
 rcases ((h.mem e).1 he).2 d ((h.mem d).1 hd).1 with k | k
 ·exact absurd k hne
 ·exact k
theorem LeastOf.nodup (h : LeastOf L M) : M.Nodup := h.asc.nodup cmpB_ord
theorem LeastOf.len (h : LeastOf L M) : M.length ≤ L.length := by
 have key : ∀ {M L : List (List B)}, M.Nodup → (∀ x ∈ M, x ∈ L) → M.length ≤ L.length := fun {M L} => by
  induction M generalizing L with
  | nil => intro _ _; exact Nat.zero_le _
  | cons a M ih =>
   intro hn hs
   have w_ := List.nodup_cons.1 hn
   obtain ⟨h1, h2⟩ := w_
   have ha := hs a (by simp)
   have := ih (L := L.erase a) h2 fun x hx => (List.mem_erase_of_ne fun e => by subst e; exact h1 hx).2 (hs x (by simp [hx]))
   have hl := List.length_erase_of_mem ha
   have := List.length_pos_of_mem ha
   rw [List.length_cons]; omega
 exact key h.nodup fun x hx => ((h.mem x).1 hx).1
end
end Go.Vx
namespace Go.Vx
open Go.Proofs Classical
def T.prs : T → List T
 | .pair a b => .pair a b :: (a.prs ++ b.prs)
 | _ => []
def T.lvs : T → Nat
 | .pair a b => a.lvs + b.lvs
 | _ => 1
theorem T.size_lvs : ∀ t : T, t.size + 1 = 2 * t.lvs
 | .pair a b => by
  have h1 := a.size_lvs
  have h2 := b.size_lvs
  simp only [T.size, T.lvs]; omega
 | .nil => rfl
 | .var _ => rfl
 | .sym _ => rfl
 | .num _ => rfl
theorem lvs_ap {s : Int → T} {M : Nat} (hM : 1 ≤ M) : ∀ t : T, (∀ m, t.occ m → (s m).lvs ≤ M) → (t.ap s).lvs ≤ t.lvs * M
 | .pair a b, h => by
  have h1 := lvs_ap hM a fun m k => h m (.inl k)
  have h2 := lvs_ap hM b fun m k => h m (.inr k)
  show (a.ap s).lvs + (b.ap s).lvs ≤ (a.lvs + b.lvs) * M
  rw [Nat.add_mul]; omega
 | .nil, _ => by show 1 ≤ 1 * M; omega
 | .var n, h => by
  have := h n rfl
  show (s n).lvs ≤ 1 * M
  omega
 | .sym _, _ => by show 1 ≤ 1 * M; omega
 | .num _, _ => by show 1 ≤ 1 * M; omega
end Go.Vx
namespace Go.Vx
open Go.Proofs Classical
def PrsIn (P : List T) (t : T) : Prop := (∀ p ∈ t.prs, p ∈ P) ∧ t.good
theorem PrsIn.pair {P : List T} (_hP : ∀ a b, T.pair a b ∈ P → (∀ p ∈ a.prs, p ∈ P) ∧ ∀ p ∈ b.prs, p ∈ P) {a b : T} (h : PrsIn P (.pair a b)) : PrsIn P a ∧ PrsIn P b :=
 ⟨⟨fun p hp => h.1 p (by simp [T.prs, hp]), h.2.1⟩, ⟨fun p hp => h.1 p (by simp [T.prs, hp]), h.2.2⟩⟩
end Go.Vx
namespace Go.Vx
open Go.Proofs Classical
noncomputable def newB (s x : List B) : List B := x.filter fun c => decide (∀ b ∈ s, b.var ≠ c.var)
theorem asF_of_mem {x : List B} (h : Srt x) {b : B} (hb : b ∈ x) : asF x b.var = b.to := by rw [asF, sub_of_mem h.pw hb]; rfl
theorem Subst.free {s : List B} (hs : Subst s) {b : B} (hb : b ∈ s) {n : Int} (hn : b.to.occ n) : ∀ c ∈ s, c.var ≠ n := fun c hc e => by
 have h1 := (hs.bnd b hb).2 n (T.occ_vars.1 hn)
 rw [← e, sub_of_mem hs.vals.srt.pw hc] at h1
 cases h1
theorem Srt.filter {x : List B} (h : x.Pairwise fun a b => a.var < b.var) (p : B → Bool) : (x.filter p).Pairwise fun a b => a.var < b.var := h.sublist (List.filter_sublist (l := x))
end Go.Vx
namespace Go.Vx
open Go.Proofs Classical
theorem kind_one {t : T} (h : t.tm.kind = 1) : t = .var t.tm.num := by
 cases t with
 | var n => rfl
 | nil => cases h
 | sym _ => cases h
 | num _ => cases h
 | pair _ _ => cases h
def lvB (n : Nat) : Nat := if 2 < n then 2 * lvB (n / 2) else 1
termination_by n
decreasing_by omega
theorem lvB_6 : lvB 6 = 4 := by rw [lvB, if_pos (by decide), lvB, if_pos (by decide), lvB, if_neg (by decide)]
theorem lvB_pos : ∀ n, 1 ≤ lvB n := fun n => by
 induction n using Nat.strongRecOn with
 | ind n ih =>
  rw [lvB]
  split
  ·have := ih (n / 2) (by omega); omega
  ·exact Nat.le_refl _
structure Drawn (k : Nat) (vars : Int) (t : T) : Prop where
 good : t.good
 low : ∀ n, t.occ n → 0 ≤ n ∧ n < vars
 lvs : t.lvs ≤ k
theorem Drawn.pair {k l : Nat} {vars : Int} {a b : T} (h : Drawn k vars a) (h2 : Drawn l vars b) : Drawn (k + l) vars (.pair a b) :=
 ⟨⟨h.good, h2.good⟩, fun n hn => hn.elim (h.low n) (h2.low n), by have := h.lvs; have := h2.lvs; simp only [T.lvs]; omega⟩
theorem Drawn.mono {k l : Nat} {vars : Int} {a : T} (h : Drawn k vars a) (hl : k ≤ l) : Drawn l vars a := ⟨h.good, h.low, Nat.le_trans h.lvs hl⟩
theorem Drawn.size {k : Nat} {vars : Int} {a : T} (h : Drawn k vars a) : a.size ≤ 2 * k := by
 have h1 := a.size_lvs
 have h2 := h.lvs
 omega
theorem Drawn.ok {k : Nat} {vars : Int} {a : T} (h : Drawn k vars a) (hk : k ≤ 2500) : a.ok := ⟨h.good, by have := h.size; omega⟩
end Go.Vx
namespace Go.Vx
open Go.Proofs Classical
open Go.ChangeShapes Go.WideShapes Go.ChangeAt Go.RowKit
structure Bytes (μ : Mem) (base : Option Addr) (n : Nat) : Prop where
 max : n ≤ maxLen
 get : ∀ i : Nat, i < n → ∃ (a : Addr) (b : Int), ElemAt μ base n 1 (i : Int) a [.int .u8 b]
theorem Bytes.mono {μ μ' : Mem} {base : Option Addr} {n : Nat} (h : Bytes μ base n) (hle : μ.Le μ') : Bytes μ' base n :=
 ⟨h.max, fun i hi => by
  have w_ := h.get i hi
  obtain ⟨a, b, e⟩ := w_
  exact ⟨a, b, e.mono hle⟩⟩
theorem read_bytes {P : Program} {H : Type} {enc : TypeId × Value → H} {w : World} {sp : Nat → Bool} {hd : Bool} {b : Nat} {t e : TypeId} {v : Value} {x : DataW H} {p : List MemPlace} (ht : P.underlying t = some (.slice e)) (he : P.underlying e = some (.int .u8)) (hc : P.cellsOf e = 1)
  (hv : Value.okWide P w .any b t v) (h : DataW.Trod enc P w 0 sp hd t v x p) : ∃ base n cap, v = .slice base n cap ∧ Bytes (wmem w) base n := by
 obtain ⟨fuel, h⟩ := h
 have hcs : ∀ cs, v ≠ .agg cs := fun cs k => okWide_slice ht cs (k ▸ hv)
 rcases DataW.trod_slice ht h with ⟨h1, _⟩ | ⟨a, len, cap, elems, rest, m, hm, h1, _, _, _, h2, h3, h4, _⟩
 ·cases v with
  | agg cs => exact absurd rfl (hcs cs)
  | _ =>
   have h1 := List.cons.inj h1
   rw [h1.1]
   exact ⟨none, 0, 0, rfl, ⟨Nat.zero_le _, fun i hi => absurd hi (Nat.not_lt_zero _)⟩⟩
 ·have hsl : v = .slice (some a) len cap := by
   cases v with
   | agg cs => exact absurd rfl (hcs cs)
   | _ =>
    have h1 := List.cons.inj h1
    exact h1.1
  subst hsl
  refine ⟨some a, len, cap, rfl, ⟨by omega, fun i hi => ?_⟩⟩
  have := h4 i hi
  rw [List.getElem?_eq_getElem (by omega)] at this
  obtain ⟨cs', k1, k2⟩ := Option.bind_eq_some_iff.1 this
  obtain ⟨n, rfl, _, _⟩ := DataW.trod_int he k2
  rw [hc] at k1
  obtain ⟨g1, g2⟩ := cells?_at k1
  exact ⟨a.add (i * 1), n, ⟨by omega, by omega, ⟨a, rfl, by simp⟩, rfl, fun j u hj => g2 j u hj⟩⟩
theorem and255 (x : Int) : ∃ k : Nat, bits .and .i64 x 255 = (k : Int) ∧ k < 256 := by
 have e : (BitVec.ofInt 64 x &&& BitVec.ofInt 64 255).toNat ≤ 255 := by
  rw [BitVec.toNat_and]
  have : (BitVec.ofInt 64 255).toNat = 255 := by decide
  rw [this]
  exact Nat.and_le_right
 refine ⟨(BitVec.ofInt 64 x &&& BitVec.ofInt 64 255).toNat, ?_, by omega⟩
 show IntKind.i64.wrap ((BitVec.ofInt 64 x &&& BitVec.ofInt 64 255).toNat : Nat) = _
 exact wrap64 (by omega) (by omega)
def curO (base : Option Addr) (n cap : Nat) (i h : Int) : Obj := .cells #[.slice base n cap, .int .i64 i, .int .i64 h] 121 (0, 0)
def CurO (μ : Mem) (o : Obj) : Prop := ∃ base n cap, ∃ (i : Nat) (hh : Int), o = curO base n cap i hh ∧ Bytes μ base n ∧ i ≤ n
theorem CurO.mono {μ μ' : Mem} {o : Obj} (h : CurO μ o) (hle : μ.Le μ') : CurO μ' o := by
 obtain ⟨base, n, cap, i, hh, e, k1, k2⟩ := h
 exact ⟨base, n, cap, i, hh, e, k1.mono hle, k2⟩
structure Cur (μ h : Mem) (r : Nat) (h' : Mem) : Prop where
 ex : ∃ o, CurO μ o ∧ h' = h.set r o
theorem Mem.set_self {h : Mem} {r : Nat} {o : Obj} (e : h r = some o) : h.set r o = h := funext fun b => by
 by_cases k : b = r
 ·subst k; rw [Mem.set_at, e]
 ·rw [Mem.set_ne k]
theorem Cur.at {μ h h' : Mem} {r : Nat} (k : Cur μ h r h') : Cur μ h' r h' := by
 obtain ⟨o, h1, h2⟩ := k.ex
 subst h2
 exact ⟨o, h1, (Mem.set_self (Mem.set_at _ _ _)).symm⟩
theorem Cur.trans {μ μ' h h' h'' : Mem} {r : Nat} (k : Cur μ h r h') (k2 : Cur μ' h' r h'') : Cur μ' h r h'' := by
 obtain ⟨o, h1, rfl⟩ := k.ex
 obtain ⟨o', h3, rfl⟩ := k2.ex
 exact ⟨o', h3, Mem.set_set _ _ _ _⟩
theorem Cur.mono {μ μ' h h' : Mem} {r : Nat} (k : Cur μ h r h') (hle : μ.Le μ') : Cur μ' h r h' := by
 obtain ⟨o, h1, h2⟩ := k.ex
 exact ⟨o, h1.mono hle, h2⟩
section
variable {μ : Mem}
theorem l01Byte_spec {h : Mem} {r : Nat} (hc : Cur μ h r h) :
  SpecH Try.prog 56 [.pointer (some ⟨r, 0, none⟩)] μ h fun v μ' h' => μ' = μ ∧ Cur μ h r h' ∧ ∃ k : Nat, v = .int .i64 k ∧ k < 256 := by
 obtain ⟨o, ⟨base, n, cap, i, hh, rfl, hb, hi⟩, e⟩ := hc.ex
 have hr : h r = some (curO base n cap i hh) := by rw [e, Mem.set_at]
 clear e hc
 refine SpecH.mk [] Try.func56 (by kernel_rfl) ?_
 refine oIn [.int .i64 hh] rfl (fld_at hr rfl) ?_
 refine num_intro fun x1 _ => ?_
 refine num_intro fun x2 _ => ?_
 refine sIn [.slice base n cap, .int .i64 i, .int .i64 hh] 121 hr rfl (by show 2 + 1 ≤ 3; decide) ?_
 have h1 : (h.set r (curO base n cap i x2)) r = some (curO base n cap i x2) := Mem.set_at _ _ _
 refine oIn [.int .i64 x2] rfl (fld_at h1 rfl) ?_
 refine need_intro (by decide) ?_
 refine num_intro fun x3 _ => ?_
 refine oIn [.int .i64 x2] rfl (fld_at h1 rfl) ?_
 refine need_intro (by decide) ?_
 refine num_intro fun x4 _ => ?_
 refine num_intro fun x5 _ => ?_
 have w_ := and255 x5
 obtain ⟨k, ek, hk⟩ := w_
 refine nEq ek ?_
 refine oIn [.int .i64 (i : Int)] rfl (fld_at h1 rfl) ?_
 refine oIn [.slice base n cap] rfl (fld_at h1 rfl) ?_
 refine ifd (fun hlt => ?_) (fun hlt => ?_)
 ·have w_ := hb.get i (by omega)
  obtain ⟨a, b, hel⟩ := w_
  refine oIn [.slice base n cap] rfl (fld_at h1 rfl) ?_
  refine oIn [.int .i64 (i : Int)] rfl (fld_at h1 rfl) ?_
  refine eIn hel ?_
  refine num_intro fun x6 _ => ?_
  refine num_intro fun x7 _ => ?_
  have w_ := and255 x7
  obtain ⟨k2, ek2, hk2⟩ := w_
  refine nEq ek2 ?_
  refine oIn [.int .i64 (i : Int)] rfl (fld_at h1 rfl) ?_
  have := maxLen_le hb.max
  refine num64 (by omega) (by omega) ?_
  refine sIn [.slice base n cap, .int .i64 i, .int .i64 x2] 121 h1 rfl (by show 1 + 1 ≤ 3; decide) ?_
  refine rPl ⟨rfl, ⟨curO base n cap ((i + 1 : Nat) : Int) x2, ⟨base, n, cap, i + 1, x2, rfl, hb, by omega⟩, ?_⟩, k2, rfl, hk2⟩
  show (h.set r (curO base n cap i x2)).set r _ = _
  rw [Mem.set_set]
  rfl
 ·exact rPl ⟨rfl, ⟨curO base n cap i x2, ⟨base, n, cap, i, x2, rfl, hb, hi⟩, rfl⟩, k, rfl, hk⟩
theorem l01New_spec {h : Mem} {base : Option Addr} {n cap : Nat} (hb : Bytes μ base n) :
  SpecH Try.prog 100 [.slice base n cap] μ h fun v μ' h' => μ' = μ ∧ ∃ r, v = .pointer (some ⟨r, 0, none⟩) ∧ h r = none ∧ Cur μ h r h' := by
 have hmax := maxLen_le hb.max
 refine SpecH.mk [31] Try.func100 (by kernel_rfl) ?_
 refine num_intro fun x0 _ => ?_
 refine lIn (fun p : Nat × Int => p.1 ≤ n ∧ p.1 ≤ 4000) (fun (i, x) => ⟨[(0, .val (.slice base n cap)), (3, .val (.int .i64 x)), (4, .val (.int .i64 i))], [], 0, μ, h⟩) (fun p => n - p.1)
  (0, x0) ⟨Nat.zero_le _, Nat.zero_le _⟩ (fun (_, _) => ⟨rfl, rfl⟩) ⟨⟨rfl, rfl, rfl, trivial⟩, trivial, rfl, rfl⟩ ?_
 rintro ⟨i, x⟩ ⟨hi, hi2⟩
 dsimp only at hi hi2
 refine ifd (fun hlt => ?_) (fun hlt => ?_)
 ·refine ifd (fun hlt2 => ?_) (fun hlt2 => ?_)
  ·have w_ := hb.get i (by omega)
   obtain ⟨a, b, hel⟩ := w_
   refine num_intro fun x1 _ => ?_
   refine eIn hel ?_
   refine num_intro fun x2 _ => ?_
   refine num_intro fun x3 _ => ?_
   refine num_intro fun x4 _ => ?_
   refine num_intro fun x5 _ => ?_
   refine num64 (by omega) (by omega) ⟨(i + 1, x5), ⟨by dsimp only; omega, by dsimp only; omega⟩, by dsimp only; omega, ⟨⟨rfl, rfl, rfl, trivial⟩, trivial, rfl, rfl⟩⟩
  ·intro r hm ho
   exact rPl ⟨rfl, r, rfl, ho, ⟨_, ⟨base, n, cap, 0, x, rfl, hb, Nat.zero_le _⟩, rfl⟩⟩
 ·intro r hm ho
  exact rPl ⟨rfl, r, rfl, ho, ⟨_, ⟨base, n, cap, 0, x, rfl, hb, Nat.zero_le _⟩, rfl⟩⟩
theorem l01Below_spec {h : Mem} {r : Nat} (hc : Cur μ h r h) (n : Int) :
  SpecH Try.prog 59 [.pointer (some ⟨r, 0, none⟩), .int .i64 n] μ h fun v μ' h' => μ' = μ ∧ Cur μ h r h' ∧ ∃ k : Nat, v = .int .i64 k ∧ k < 256 ∧ (0 < n → (k : Int) < n) ∧ (n ≤ 0 → k = 0) := by
 refine SpecH.mk [] Try.func59 (by kernel_rfl) ?_
 refine ifd (fun hn => ?_) (fun hn => ?_)
 ·exact rPl ⟨rfl, hc, 0, rfl, by decide, fun h => absurd hn (by omega), fun _ => rfl⟩
 ·refine cOw (l01Byte_spec hc) fun v μ1 h1 hle1 hap1 hR => ?_
  obtain ⟨e, hc1, k, rfl, hk⟩ := hR
  obtain rfl := e.symm
  refine need_intro (by omega) ?_
  have e1 : (k : Int).tmod n = ((k % n.toNat : Nat) : Int) := by
   have hn2 : n = ((n.toNat : Nat) : Int) := by omega
   conv => lhs; rw [hn2]
   rw [Int.ofNat_tmod]
  have hlt := Nat.mod_lt k (show 0 < n.toNat by omega)
  have hle := Nat.mod_le k n.toNat
  refine nEq e1 ?_
  exact rPl ⟨rfl, hc1, _, rfl, by omega, fun _ => by omega, fun h => absurd h (by omega)⟩
theorem l01Once_spec {h : Mem} {r : Nat} (hc : Cur μ h r h) (n : Int) :
  SpecH Try.prog 69 [.pointer (some ⟨r, 0, none⟩), .int .i64 n] μ h fun v μ' h' => μ' = μ ∧ Cur μ h r h' ∧ ∃ b : Bool, v = .bool b := by
 refine SpecH.mk [] Try.func69 (by kernel_rfl) ?_
 refine cOw (l01Below_spec hc n) fun v μ1 h1 hle1 hap1 hR => ?_
 obtain ⟨e, hc1, k, rfl, hk⟩ := hR
 obtain rfl := e.symm
 exact rPl ⟨rfl, hc1, _, rfl⟩
theorem l43New_spec {h : Mem} {base : Option Addr} {n cap : Nat} (hb : Bytes μ base n) (m : Int) (hm : m ≤ 1000000) :
  SpecH Try.prog 53 [.slice base n cap, .int .i64 m] μ h fun v μ' h' => μ' = μ ∧ ∃ r, v = .pointer (some ⟨r, 0, none⟩) ∧ h r = none ∧ Cur μ h r h' := by
 refine SpecH.mk [] Try.func53 (by kernel_rfl) ?_
 refine cOw (l01New_spec hb) fun v μ1 h1 hle1 hap1 hR => ?_
 obtain ⟨e, r, rfl, ho, hc1⟩ := hR
 obtain rfl := e.symm
 refine lIn (fun p : Int × Mem => 0 ≤ p.1 ∧ Cur μ h r p.2) (fun (i, h') => ⟨[(1, .val (.int .i64 m)), (5, .val (.pointer (some ⟨r, 0, none⟩))), (6, .val (.int .i64 i))], [], 0, μ, h'⟩) (fun p => (m - p.1).toNat)
  (0, h1) ⟨Int.le_refl 0, hc1⟩ (fun (_, _) => ⟨rfl, rfl⟩) ⟨⟨rfl, rfl, rfl, trivial⟩, trivial, rfl, rfl⟩ ?_
 clear hc1 hap1
 rintro ⟨i, h2⟩ ⟨hi, hc2⟩
 dsimp only at hi hc2
 refine ifd (fun hlt => ?_) (fun hlt => ?_)
 ·refine cOw (l01Byte_spec hc2.at) fun v μ2 h3 hle2 hap2 hR => ?_
  obtain ⟨e, hc3, k, rfl, hk⟩ := hR
  obtain rfl := e.symm
  refine num64 (by omega) (by omega) ⟨(i + 1, h3), ⟨by dsimp only; omega, hc2.trans hc3⟩, by dsimp only; omega, ⟨⟨rfl, rfl, rfl, trivial⟩, trivial, rfl, rfl⟩⟩
 ·exact rPl ⟨rfl, r, rfl, ho, hc2⟩
end
end Go.Vx
namespace Go.Vx
open Go.Proofs Classical
theorem isNm_one {b : UInt8} (h : 97 ≤ b.toNat ∧ b.toNat ≤ 122) : IsNm ⟨#[b]⟩ := by
 refine ⟨by show 1 ≤ 1; decide, by show 1 ≤ 12; decide, fun i c hc => ?_⟩
 have hi := (List.getElem?_eq_some_iff.1 hc).1
 have hi : i < 1 := hi
 obtain rfl : i = 0 := by omega
 cases hc
 exact .inl h
theorem Drawn.atom {t : T} (hg : t.good) (hl : t.lvs = 1) (ho : ∀ n, ¬ t.occ n) (vars : Int) : Drawn 1 vars t := ⟨hg, fun n hn => absurd hn (ho n), by omega⟩
theorem Drawn.wide {k : Nat} {v w : Int} {t : T} (h : Drawn k v t) (hw : v ≤ w) : Drawn k w t := ⟨h.good, fun n hn => by have := h.low n hn; omega, h.lvs⟩
section
variable {μ : Mem}
theorem l02Num_spec (n : Int) : Spec Try.prog 130 [.int .i64 n] μ fun v μ' => RepV μ' (T.num n).tm.d v := by
 refine Spec.mk Try.func130 (by kernel_rfl) ?_
 intro r1
 refine rPl ?_
 rw [T.tm, Tm.d_mk]
 exact ⟨_, rfl, RepS.int (RepS.int (RepS.str (RepS.last (Rep.nilSl 4))))⟩
theorem l02Sym_spec (s : ByteArray) : Spec Try.prog 131 [.string s] μ fun v μ' => RepV μ' (T.sym s).tm.d v := by
 refine Spec.mk Try.func131 (by kernel_rfl) ?_
 intro r1
 refine rPl ?_
 rw [T.tm, Tm.d_mk]
 exact ⟨_, rfl, RepS.int (RepS.int (RepS.str (RepS.last (Rep.nilSl 4))))⟩
def DrawnAt (h : Mem) (r k : Nat) (vars : Int) (v : Value) (μ' h' : Mem) : Prop := Cur μ' h r h' ∧ ∃ t : T, RepV μ' t.tm.d v ∧ Drawn k vars t
theorem l02Atom_spec {h : Mem} {r : Nat} (hc : Cur μ h r h) : SpecH Try.prog 103 [.pointer (some ⟨r, 0, none⟩)] μ h fun v μ' h' => DrawnAt h r 1 0 v μ' h' := by
 refine SpecH.mk [] Try.func103 (by kernel_rfl) ?_
 intro r1
 refine cOw (l01Below_spec hc 7) fun v μ1 h1 hle1 hap1 hR => ?_
 obtain ⟨e, hc1, k, rfl, hk, hk7, _⟩ := hR
 obtain rfl := e.symm
 have hk7 := hk7 (by decide)
 refine ifd (fun h2 => ?_) (fun h2 => ?_)
 ·refine cPl (l02Num_spec k) fun v μ2 hle2 hR => ?_
  have w_ := Tm.invV hR
  obtain ⟨p, rfl⟩ := w_
  exact rPl ⟨hc1.mono hle2, .num k, hR, Drawn.atom (t := .num k) (by show -1000000000 ≤ (k : Int) ∧ (k : Int) ≤ 1000000000; omega) rfl (fun _ h => h) 0⟩
 ·refine ifd (fun h5 => ?_) (fun h5 => ?_)
  ·intro r2
   refine num64 (by omega) (by omega) ?_
   have w_ : k = 2 ∨ k = 3 ∨ k = 4 := by omega
   rcases w_ with rfl | rfl | rfl
   ·refine rel_intro 0 rfl (by decide) ?_
    refine get_intro (.string ⟨#[97]⟩) rfl ?_
    refine cPl (l02Sym_spec ⟨#[97]⟩) fun v μ2 hle2 hR => ?_
    have w_ := Tm.invV hR
    obtain ⟨p, rfl⟩ := w_
    exact rPl ⟨hc1.mono hle2, .sym ⟨#[97]⟩, hR, Drawn.atom (t := .sym ⟨#[97]⟩) (isNm_one (by decide)) rfl (fun _ h => h) 0⟩
   ·refine rel_intro 1 rfl (by decide) ?_
    refine get_intro (.string ⟨#[98]⟩) rfl ?_
    refine cPl (l02Sym_spec ⟨#[98]⟩) fun v μ2 hle2 hR => ?_
    have w_ := Tm.invV hR
    obtain ⟨p, rfl⟩ := w_
    exact rPl ⟨hc1.mono hle2, .sym ⟨#[98]⟩, hR, Drawn.atom (t := .sym ⟨#[98]⟩) (isNm_one (by decide)) rfl (fun _ h => h) 0⟩
   ·refine rel_intro 2 rfl (by decide) ?_
    refine get_intro (.string ⟨#[99]⟩) rfl ?_
    refine cPl (l02Sym_spec ⟨#[99]⟩) fun v μ2 hle2 hR => ?_
    have w_ := Tm.invV hR
    obtain ⟨p, rfl⟩ := w_
    exact rPl ⟨hc1.mono hle2, .sym ⟨#[99]⟩, hR, Drawn.atom (t := .sym ⟨#[99]⟩) (isNm_one (by decide)) rfl (fun _ h => h) 0⟩
  ·refine rPl ⟨hc1, .nil, ?_, Drawn.atom (t := .nil) trivial rfl (fun _ h => h) 0⟩
   rw [T.tm, Tm.d_mk]
   exact ⟨_, rfl, RepS.int (RepS.int (RepS.str (RepS.last (Rep.nilSl 4))))⟩
theorem l02Draw_spec (vars : Nat) (hv : vars ≤ 1000) : ∀ (size : Nat) {μ h : Mem} {r : Nat}, size ≤ 1000 → Cur μ h r h → SpecH Try.prog 54 [.pointer (some ⟨r, 0, none⟩), .int .i64 size, .int .i64 vars] μ h fun v μ' h' => DrawnAt h r (lvB size) vars v μ' h' := fun size => by
 induction size using Nat.strongRecOn with
 | ind size ih =>
  intro μ h r hs hc
  refine SpecH.mk [] Try.func54 (by kernel_rfl) ?_
  intro r1
  refine cOw (l01Below_spec hc 8) fun v μ1 h1 hle1 hap1 hR => ?_
  obtain ⟨e, hc1, k, rfl, hk, hk8, _⟩ := hR
  obtain rfl := e.symm
  have hk8 := hk8 (by decide)
  refine ifd (fun h2 => ?_) (fun h2 => ?_)
  ·refine ifd (fun h3 => ?_) (fun h3 => ?_)
   ·have hq : IntKind.i64.wrap ((size : Int).tdiv 2) = ((size / 2 : Nat) : Int) := by
     rw [Int.tdiv_eq_ediv_of_nonneg (by omega), wrap64 (by omega) (by omega)]; omega
    refine need_intro (by decide) (nEq hq ?_)
    refine cOw (ih (size / 2) (by omega) (by omega) hc1.at) fun v μ2 h4 hle2 hap2 hR => ?_
    obtain ⟨hc2, a, ha, hda⟩ := hR
    have w_ := Tm.invV ha
    obtain ⟨p, rfl⟩ := w_
    intro r2
    refine need_intro (by decide) (nEq hq ?_)
    refine cOw (ih (size / 2) (by omega) (by omega) hc2.at) fun v μ3 h5 hle3 hap3 hR => ?_
    obtain ⟨hc3, b, hb, hdb⟩ := hR
    refine cPl (l02Pair_spec (ha.mono hle3) hb) fun v μ4 hle4 hR => ?_
    have w_ := Tm.invV hR
    obtain ⟨p, rfl⟩ := w_
    refine rPl ⟨(hc1.trans (hc2.trans hc3)).mono hle4, .pair a b, hR, ?_⟩
    have h2 : 2 < size := by omega
    rw [lvB, if_pos h2, Nat.two_mul]
    exact hda.pair hdb
   ·refine ifd (fun h6 => ?_) (fun h6 => ?_)
    ·refine need_intro (by decide) ?_
     refine num_intro fun x _ => ?_
     refine ifd (fun h7 => ?_) (fun h7 => ?_)
     ·refine cOw (l01Below_spec hc1.at vars) fun v μ2 h4 hle2 hap2 hR => ?_
      obtain ⟨e, hc2, j, rfl, hj, hj2, _⟩ := hR
      obtain rfl := e.symm
      have hj2 := hj2 (by omega)
      refine cGv (l02Var_spec _) ?_
      refine rPl ⟨hc1.trans hc2, .var j, varV_rep _, ⟨by show 0 ≤ (j : Int) ∧ (j : Int) ≤ 100000; omega, fun n hn => ?_, lvB_pos _⟩⟩
      have hn : (j : Int) = n := hn
      omega
     ·refine cOw (l02Atom_spec hc1.at) fun v μ2 h4 hle2 hap2 hR => ?_
      obtain ⟨hc2, a, ha, hda⟩ := hR
      have w_ := Tm.invV ha
      obtain ⟨p, rfl⟩ := w_
      exact rPl ⟨hc1.trans hc2, a, ha, (hda.wide (by omega)).mono (lvB_pos _)⟩
    ·refine cOw (l02Atom_spec hc1.at) fun v μ2 h4 hle2 hap2 hR => ?_
     obtain ⟨hc2, a, ha, hda⟩ := hR
     have w_ := Tm.invV ha
     obtain ⟨p, rfl⟩ := w_
     exact rPl ⟨hc1.trans hc2, a, ha, (hda.wide (by omega)).mono (lvB_pos _)⟩
  ·refine ifd (fun h6 => ?_) (fun h6 => ?_)
   ·refine need_intro (by decide) ?_
    refine num_intro fun x _ => ?_
    refine ifd (fun h7 => ?_) (fun h7 => ?_)
    ·refine cOw (l01Below_spec hc1.at vars) fun v μ2 h4 hle2 hap2 hR => ?_
     obtain ⟨e, hc2, j, rfl, hj, hj2, _⟩ := hR
     obtain rfl := e.symm
     have hj2 := hj2 (by omega)
     refine cGv (l02Var_spec _) ?_
     refine rPl ⟨hc1.trans hc2, .var j, varV_rep _, ⟨by show 0 ≤ (j : Int) ∧ (j : Int) ≤ 100000; omega, fun n hn => ?_, lvB_pos _⟩⟩
     have hn : (j : Int) = n := hn
     omega
    ·refine cOw (l02Atom_spec hc1.at) fun v μ2 h4 hle2 hap2 hR => ?_
     obtain ⟨hc2, a, ha, hda⟩ := hR
     have w_ := Tm.invV ha
     obtain ⟨p, rfl⟩ := w_
     exact rPl ⟨hc1.trans hc2, a, ha, (hda.wide (by omega)).mono (lvB_pos _)⟩
   ·refine cOw (l02Atom_spec hc1.at) fun v μ2 h4 hle2 hap2 hR => ?_
    obtain ⟨hc2, a, ha, hda⟩ := hR
    have w_ := Tm.invV ha
    obtain ⟨p, rfl⟩ := w_
    exact rPl ⟨hc1.trans hc2, a, ha, (hda.wide (by omega)).mono (lvB_pos _)⟩
structure GVals (n k : Nat) (g : List B) : Prop where
 len : g.length = n
 get : ∀ (i : Nat) b, g[i]? = some b → b.var = (i : Int) ∧ Drawn k 0 b.to
theorem GVals.nil (k : Nat) : GVals 0 k [] := ⟨rfl, fun i b h => by simp at h⟩
theorem GVals.snoc {n k : Nat} {g : List B} (h : GVals n k g) {t : T} (ht : Drawn k 0 t) : GVals (n + 1) k (g ++ [⟨n, t⟩]) := by
 refine ⟨by rw [List.length_append, h.len]; rfl, fun i b hb => ?_⟩
 rcases Nat.lt_or_ge i g.length with hi | hi
 ·rw [List.getElem?_append_left hi] at hb
  exact h.get i b hb
 ·rw [List.getElem?_append_right hi] at hb
  have := (List.getElem?_eq_some_iff.1 hb).1
  have hi2 : i = g.length := by simp at this; omega
  subst hi2
  rw [Nat.sub_self] at hb
  cases hb
  exact ⟨by rw [h.len], ht⟩
structure DSub (lo hi : Int) (k : Nat) (vars : Int) (s : List B) : Prop where
 srt : s.Pairwise fun a b => a.var < b.var
 rng : ∀ b ∈ s, lo ≤ b.var ∧ b.var < hi ∧ Drawn k vars b.to
theorem DSub.nil (lo hi : Int) (k : Nat) (vars : Int) : DSub lo hi k vars [] := ⟨List.Pairwise.nil, fun b hb => by simp at hb⟩
theorem DSub.snoc {lo i : Int} {k : Nat} {vars : Int} {s : List B} (h : DSub lo i k vars s) {t : T} (hl : lo ≤ i) (ht : Drawn k vars t) : DSub lo (i + 1) k vars (s ++ [⟨i, t⟩]) := by
 refine ⟨List.pairwise_append.2 ⟨h.srt, by simp, fun a ha b hb => ?_⟩, fun b hb => ?_⟩
 ·rw [List.mem_singleton.1 hb]
  exact (h.rng a ha).2.1
 ·rcases List.mem_append.1 hb with hb | hb
  ·have := h.rng b hb
   exact ⟨this.1, by omega, this.2.2⟩
  ·rw [List.mem_singleton.1 hb]
   exact ⟨hl, by show i < i + 1; omega, ht⟩
theorem DSub.up {lo i j : Int} {k : Nat} {vars : Int} {s : List B} (h : DSub lo i k vars s) (hj : i ≤ j) : DSub lo j k vars s := ⟨h.srt, fun b hb => by
 have := h.rng b hb
 exact ⟨this.1, by omega, this.2.2⟩⟩
theorem DSub.len {lo hi : Int} {k : Nat} {vars : Int} : ∀ {s : List B}, DSub lo hi k vars s → (s.length : Int) ≤ max 0 (hi - lo)
 | [], _ => by simp; omega
 | b :: s, h => by
  have h1 := h.rng b (by simp)
  have hp := List.pairwise_cons.1 h.srt
  have := DSub.len (lo := b.var + 1) (hi := hi) (k := k) (vars := vars) (s := s) ⟨hp.2, fun c hc => ⟨by have := hp.1 c hc; omega, (h.rng c (by simp [hc])).2⟩⟩
  rw [List.length_cons]
  omega
theorem l04Draw_spec {h : Mem} {r : Nat} (hc : Cur μ h r h) : SpecH Try.prog 68 [.pointer (some ⟨r, 0, none⟩)] μ h fun v μ' h' => Cur μ' h r h' ∧ ∃ s : List B, DSub 4 8 4 4 s ∧ RepV μ' (.sl 5 ((s.map B.bd).map Bd.d)) v := by
 refine SpecH.mk [] Try.func68 (by kernel_rfl) ?_
 intro r0
 refine lIn (fun p : Nat × Option Nat × Nat × List Value × List B × Mem × Mem => 4 ≤ p.1 ∧ p.1 ≤ 8 ∧ μ.Le p.2.2.2.2.2.1 ∧ Cur p.2.2.2.2.2.1 h r p.2.2.2.2.2.2 ∧ DSub 4 p.1 4 4 p.2.2.2.2.1 ∧ Rows p.2.2.2.2.2.1 5 ((p.2.2.2.2.1.map B.bd).map Bd.d) p.2.2.2.1)
  (fun (i, b, c, ys, _, μ', h') => ⟨[(0, .val (.pointer (some ⟨r, 0, none⟩))), (3, .row 0 b ys.length c), (4, .val (.int .i64 i))], [(0, some (.row b c 56 5 ys))], 1, μ', h'⟩) (fun p => 8 - p.1)
  (4, some r0, 0, [], [], μ, h) ⟨Nat.le_refl _, by omega, Mem.Le.refl _, hc, DSub.nil _ _ _ _, .nil⟩ (fun (_, _, _, _, _, _, _) => ⟨rfl, rfl⟩) ⟨⟨rfl, rfl, rfl, trivial⟩, ⟨rfl, trivial⟩, rfl, rfl⟩ ?_
 rintro ⟨i, b, c, ys, s, μ1, h1⟩ ⟨hi0, hi, hle1, hc1, hs, hrows⟩
 dsimp only at hi0 hi hle1 hc1 hs hrows
 have hyl := hrows.len
 have hsl := hs.len
 rw [List.length_map, List.length_map] at hyl
 refine ifd (fun hlt => ?_) (fun hlt => ?_)
 ·refine cOw (l01Once_spec hc1.at 2) fun v μ2 h2 hle2 hap2 hR => ?_
  obtain ⟨e, hc2, c1, rfl⟩ := hR
  obtain rfl := e.symm
  refine iIn (fun hb => ?_) (fun hb => ?_)
  ·refine cOw (l02Draw_spec 4 (by omega) 6 (by decide) hc2.at) fun v μ2 h3 hle3 hap3 hR => ?_
   obtain ⟨hc3, t, ht, hd⟩ := hR
   have w_ := Tm.invV ht
   obtain ⟨q, rfl⟩ := w_
   intro r52
   refine gIn ?_ ?_ fun b' c' hb' => ?_
   ·show (ys.length + 1) * 64 ≤ _; omega
   ·exact Nat.le_trans (m := 100000000) (show ys.length + 1 ≤ _ by omega) (by decide)
   have hs' : DSub 4 ((i + 1 : Nat) : Int) 4 4 (s ++ [⟨i, t⟩]) := hs.snoc (by omega) (hd.mono (Nat.le_of_eq lvB_6))
   refine num64 (by omega) (by omega) ⟨(i + 1, b', c', _, s ++ [⟨i, t⟩], μ2, h3), ⟨by dsimp only; omega, by dsimp only; omega, hle1.trans hle3, hc1.trans (hc2.trans hc3), hs', ?_⟩, by dsimp only; omega, ⟨⟨rfl, rfl, rfl, trivial⟩, ⟨rfl, trivial⟩, rfl, rfl⟩⟩
   dsimp only
   rw [List.map_append, List.map_append]
   exact (hrows.mono hle3).append (Rows.one (RepV.bd ht) (Bd.d_n _))
  ·exact num64 (by omega) (by omega) ⟨(i + 1, b, c, ys, s, μ1, h2), ⟨by dsimp only; omega, by dsimp only; omega, hle1, hc1.trans hc2, hs.up (by dsimp only; omega), hrows⟩, by dsimp only; omega, ⟨⟨rfl, rfl, rfl, trivial⟩, ⟨rfl, trivial⟩, rfl, rfl⟩⟩
 ·obtain rfl : i = 8 := by omega
  refine rFz [0] fun μ2 hle2 hno hat => .inl ⟨hc1.mono hle2, s, hs, ?_⟩
  exact Rows.sl hat (hrows.mono hle2) (Nat.le_trans (m := 1000) (by omega) (by decide))
end
end Go.Vx
namespace Go.Vx
open Go.Proofs Classical
theorem DSub.subst {lo hi : Int} {k : Nat} {vars : Int} {s : List B} (h : DSub lo hi k vars s) (h0 : 0 ≤ lo) (h1 : hi ≤ 100) (h2 : vars ≤ lo) (hk : k ≤ 2500) : Subst s := by
 have hs : Srt s := srt_of_pw h.srt
 have hl := h.len
 refine ⟨⟨valsOk_of hs (by omega) fun b hb => ?_⟩, fun b hb => ⟨?_, fun n hn => ?_⟩⟩
 ·have k := h.rng b hb
  have := k.2.2.size
  exact ⟨by omega, k.2.2.good, by omega⟩
 ·rintro ⟨e1, e2⟩
  have k := h.rng b hb
  rw [kind_one e1] at k
  have := k.2.2.low _ rfl
  omega
 ·have k := h.rng b hb
  have := k.2.2.low n (T.occ_vars.2 hn)
  cases e : sub s n with
  | none => rfl
  | some t =>
   have := h.rng _ (sub_in e)
   simp only at this
   omega
theorem GVals.mem {n k : Nat} {g : List B} (h : GVals n k g) {b : B} (hb : b ∈ g) : 0 ≤ b.var ∧ b.var < n ∧ Drawn k 0 b.to := by
 have w_ := List.mem_iff_getElem?.1 hb
 obtain ⟨i, hi⟩ := w_
 have := h.get i b hi
 have h2 := (List.getElem?_eq_some_iff.1 hi).1
 rw [h.len] at h2
 exact ⟨by omega, by omega, this.2⟩
theorem GVals.srt {n k : Nat} {g : List B} (h : GVals n k g) : Srt g := fun i j b c hij hb hc => by
 have h1 := (h.get i b hb).1
 have h2 := (h.get j c hc).1
 omega
theorem GVals.asF {n k : Nat} {g : List B} (h : GVals n k g) {m : Int} (h0 : 0 ≤ m) (h1 : m < n) : Drawn k 0 (asF g m) := by
 have w_ := aSo (l := g) (i := m.toNat) (by rw [h.len]; omega)
 obtain ⟨b, hb⟩ := w_
 have k1 := h.get _ b hb
 have e : b.var = m := by rw [k1.1]; omega
 rw [← e, asF_of_mem h.srt (mAt hb)]
 exact k1.2
theorem GVals.out {n k : Nat} {g : List B} (h : GVals n k g) {m : Int} (h1 : (n : Int) ≤ m) : Go.Vx.asF g m = .var m := by
 cases e : sub g m with
 | none => rw [Go.Vx.asF, e]; rfl
 | some t =>
  have := h.mem (sub_in e)
  simp only at this
  omega
theorem Drawn.ap {k l : Nat} {vars w : Int} {t : T} {θ : Int → T} (h : Drawn k vars t) (hl : 1 ≤ l) (hθ : ∀ m, 0 ≤ m → m < vars → Drawn l w (θ m)) : Drawn (k * l) w (t.ap θ) := by
 refine ⟨T.good_ap (fun n hn => (hθ n (h.low n hn).1 (h.low n hn).2).good) h.good, fun n hn => ?_, ?_⟩
 ·have w_ := T.occ_ap hn
  obtain ⟨m, hm, hn⟩ := w_
  exact (hθ m (h.low m hm).1 (h.low m hm).2).low n hn
 ·exact Nat.le_trans (lvs_ap hl t fun m hm => (hθ m (h.low m hm).1 (h.low m hm).2).lvs) (Nat.mul_le_mul_right _ h.lvs)
theorem GVals.vals {n k : Nat} {g : List B} (h : GVals n k g) (hn : n ≤ 400) (hk : k ≤ 2500) : Vals g :=
 ⟨valsOk_of h.srt (by rw [h.len]; exact hn) fun b hb => by
  have := h.mem hb
  have h2 := this.2.2.size
  exact ⟨by omega, this.2.2.good, by omega⟩⟩
section
variable {μ : Mem}
end
end Go.Vx
