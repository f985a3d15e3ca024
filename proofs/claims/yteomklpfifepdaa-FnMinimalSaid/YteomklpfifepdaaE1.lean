/- Texts of the proof, part E1. -/
import Derived.Below
import Derived.Lib.ReflectliteSwap
import Derived.MapKept
import Derived.Orders
import Derived.Sort.AssemblyPlain
import Derived.WalkKit
import Derived.WideKeyMaps
import Derived.Test.YteomklpfifepdaaM3
namespace Go.Vx
theorem src_intro {μ : Mem} {base : Option Addr} {n es : Nat} {K : List Value → Prop} (ys : List Value) (h : SrcAt μ base n es ys) (k : K ys) : srcVC μ base n es K := ⟨⟨ys, h, k⟩⟩
end Go.Vx
namespace Go.Vx
section
variable {μ μ' : Mem}
theorem Rep.lens {es : Nat} {xs : List D} {b : Option Addr} {n c : Nat} (h : Rep μ (.sl es xs) [.slice b n c]) : n ≤ c := by
 obtain ⟨b', c', h1, h2, _⟩ := h
 simp only [List.cons.injEq, and_true, Value.slice.injEq] at h1
 obtain ⟨rfl, rfl, rfl⟩ := h1
 exact h2.le
end
end Go.Vx
namespace Go.Vx
section
variable {P : Program} {f : FuncId} {args : List Value} {μ h0 : Mem}
end
theorem OwnS.split : ∀ {l r : List D} {h : Mem} {cs : List Value}, OwnS (l ++ r) h cs → ∃ c1 c2 h1 h2, cs = c1 ++ c2 ∧ Parts h h1 h2 ∧ OwnS l h1 c1 ∧ OwnS r h2 c2
 | [], r, h, cs, k => ⟨[], cs, Mem.nil, h, rfl, Parts.nil_left h, ⟨rfl, rfl⟩, k⟩
 | d :: l, r, h, cs, k => by
  obtain ⟨a, b, g1, g2, rfl, q, m1, m2⟩ := k
  obtain ⟨c1, c2, h1, h2, rfl, p, k1, k2⟩ := OwnS.split m2
  obtain ⟨m, q1, q2⟩ := q.assoc p
  exact ⟨a ++ c1, c2, m, h2, by simp, q2, ⟨a, c1, g1, h1, rfl, q1, m1, k1⟩, k2⟩
end Go.Vx
namespace Go.Vx
open Classical
theorem Rep.slC {μ : Mem} {es : Nat} {xs : List D} {v : Value} (h : Rep μ (.sl es xs) [v]) : ∃ base cap, v = .slice base xs.length cap ∧ Sl μ es base xs.length xs ∧ xs.length ≤ cap := by
 have w_ := Rep.sl h
 obtain ⟨b, c, rfl, hs⟩ := w_
 obtain ⟨base, cap, h1, h2, _⟩ := h
 simp only [List.cons.injEq, and_true, Value.slice.injEq, true_and] at h1
 obtain ⟨rfl, rfl⟩ := h1
 exact ⟨b, c, rfl, hs, h2.le⟩
end Go.Vx
namespace Go.Vx
open Go.Proofs Classical
theorem ints_flat : ∀ l : List Int, (ints l).flatMap vcells = ints l
 | [] => rfl
 | n :: l => by
  have := ints_flat l
  simp only [ints] at this ⊢
  simp [this, vcells]
section
variable {μ : Mem}
theorem Ints.src {l : List Int} {base : Option Addr} (h : Sl μ 1 base l.length (l.map D.i)) {a b cap : Nat} (hab : a ≤ b) (hb : b ≤ l.length) (hc : l.length ≤ cap) : SrcAt μ (if cap = a then base else base.map (·.add (a * 1))) (b - a) 1 (ints ((l.drop a).take (b - a))) := by
 refine ⟨by simp [ints]; omega, fun y hy => ?_, ?_⟩
 ·have w_ := List.mem_map.1 hy
  obtain ⟨n, _, rfl⟩ := w_
  exact ⟨rfl, fun u hu => by simp [vcells] at hu; subst hu; rfl⟩
 ·rcases Nat.eq_or_lt_of_le hab with h0 | h0
  ·exact .inl (by omega)
  ·right
   have w_ := aSo (l := l) (i := a) (by omega)
   obtain ⟨x, hx⟩ := w_
   have w_ := Ints.elem h hx
   obtain ⟨_, hel⟩ := w_
   obtain ⟨a0, e, _⟩ := hel.addr
   refine ⟨a0.add (a * 1), by rw [if_neg (by omega), e]; rfl, fun j v hj => ?_⟩
   rw [ints_flat] at hj
   simp only [ints, List.getElem?_map] at hj
   have w_ := Option.map_eq_some_iff.1 hj
   obtain ⟨y, hy, rfl⟩ := w_
   rw [List.getElem?_take] at hy
   split at hy
   ·rw [List.getElem?_drop] at hy
    have w_ := Ints.elem h hy
    obtain ⟨ad, hel2⟩ := w_
    obtain ⟨a1, e1, e2⟩ := hel2.addr
    rw [e] at e1
    cases e1
    have := hel2.cell 0 _ rfl
    rw [e2, add_add] at this
    rw [add_add]
    rw [← this]
    congr 2
    simp
    omega
   ·cases hy
end
end Go.Vx
namespace Go.Vx
open Go.Proofs Classical
def resTm : Option T → Tm
 | some y => y.tm
 | none => .mk 0 0 ⟨#[]⟩ []
theorem zero_own : OwnV (resTm none).d Mem.nil (.agg #[.int .i64 0, .int .i64 0, .string ⟨#[]⟩, .slice none 0 0]) := by
 rw [resTm, Tm.d_mk]
 exact ⟨_, rfl, OwnS.int (OwnS.int (OwnS.str (OwnS.last (Own.nilSl 4))))⟩
theorem optV_fresh {μ μ' : Mem} {o : Option T} {v : Value} (h : optV (fun y tv => Fresh μ μ' y.tm.d tv) o v) : ∃ tv, v = .tuple #[tv, .bool o.isSome] ∧ Fresh μ μ' (resTm o).d tv := by
 cases o with
 | some y => obtain ⟨tv, rfl, h⟩ := h; exact ⟨tv, rfl, h⟩
 | none => exact ⟨_, h, Mem.nil, zero_own, (fun _ _ h => nomatch h), fun _ h => absurd rfl h⟩
end Go.Vx
namespace Go.Vx
open Go.Proofs Classical
theorem hd1 {x y : Tm} {r : Int} (h : ¬ x.kind = y.kind) : hdCmp x y r = sgn (decide (x.kind < y.kind)) := by rw [hdCmp, if_pos h]
theorem hd3 {x y : Tm} {r : Int} (h1 : x.kind = y.kind) (h2 : x.num = y.num) (h : ¬ x.name = y.name) : hdCmp x y r = sgn (Op.bytesLess x.name.data.toList y.name.data.toList) := by rw [hdCmp, if_neg (fun k => k h1), if_neg (fun k => k h2), if_pos h]
section
variable {μ : Mem}
theorem orderInts_spec (a b : Int) (h : ¬ a = b) : Gives Try.prog 117 [.int .i64 a, .int .i64 b] μ (.int .i64 (sgn (decide (a < b)))) := by
 refine Spec.mk Try.func117 (by kernel_rfl) ?_
 refine ifd (fun h1 => rGv ?_ rfl) (fun h1 => ?_)
 ·rw [decide_eq_true h1]; rfl
 refine ifd (fun h2 => rGv ?_ rfl) (fun h2 => by omega)
 rw [decide_eq_false h1]; rfl
theorem T.kind4 {x : T} (h : x.tm.kind = 4) : ∃ a b, x = .pair a b := by
 cases x <;> simp_all [T.tm, Tm.kind]
theorem T.arg {μ : Mem} {x : T} {base : Option Addr} (h : Sl μ 4 base x.args.length ((x.args.map T.tm).map Tm.d)) {i : Nat} {y : T} (hy : x.args[i]? = some y) : ∃ ad, ∃ p : Option Addr × Nat, ElemAt μ base x.args.length 4 i ad (y.tm.cs p) ∧ RepV μ y.tm.d (.agg (y.tm.cs p).toArray) :=
 Tm.elem h (by simp [hy])
theorem orderTerms_spec : ∀ (x y : T) {v w : Value}, RepV μ x.tm.d v → RepV μ y.tm.d w → Gives Try.prog 112 [v, w] μ (.int .i64 (x.cmp y)) :=
 T.ind fun x ih y v w hv hw => by
  have w_ := T.inv hv
  obtain ⟨b1, c1, rfl, hs1⟩ := w_
  have w_ := T.inv hw
  obtain ⟨b2, c2, rfl, hs2⟩ := w_
  rw [T.cmp_eq]
  refine Spec.mk Try.func112 (by kernel_rfl) ?_
  intro r1 r2
  refine ifnd (fun h => ?_) (fun h1 => ?_)
  ·exact cGv (orderInts_spec _ _ h) (rGv (by rw [hd1 h]) rfl)
  refine ifnd (fun h => ?_) (fun h2 => ?_)
  ·exact cGv (orderInts_spec _ _ h) (rGv (by rw [hd2 h1 h]) rfl)
  refine ifnd (fun h => ?_) (fun h3 => ?_)
  ·refine iIn (fun h4 => rGv ?_ rfl) (fun h4 => rGv ?_ rfl)
   ·rw [hd3 h1 h2 h, h4]; rfl
   ·rw [hd3 h1 h2 h, h4]; rfl
  rw [hd4 h1 h2 h3]
  refine ifnd (fun h => ?_) (fun h4 => ?_)
  ·refine rGv ?_ rfl
   have : x.rest y = 0 := by cases x <;> first | rfl | exact absurd rfl h
   rw [this]
  have w_ := T.kind4 h4
  obtain ⟨a, b, rfl⟩ := w_
  have w_ := T.kind4 (h1 ▸ h4)
  obtain ⟨c, d, rfl⟩ := w_
  have w_ := T.arg hs1 (i := 0) rfl
  obtain ⟨ad1, p1, e1, g1⟩ := w_
  have w_ := T.arg hs2 (i := 0) rfl
  obtain ⟨ad2, p2, e2, g2⟩ := w_
  have w_ := T.arg hs1 (i := 1) rfl
  obtain ⟨ad3, p3, e3, g3⟩ := w_
  have w_ := T.arg hs2 (i := 1) rfl
  obtain ⟨ad4, p4, e4, g4⟩ := w_
  refine eIn e1 (eIn e2 (cGv (ih a (by simp [T.args]) c g1 g2) ?_))
  simp only [T.rest]
  refine ifnd (fun h => ?_) (fun h5 => ?_)
  ·rw [if_neg h]; exact rGv rfl rfl
  ·rw [if_pos h5]
   exact eIn e3 (eIn e4 (cGv (ih b (by simp [T.args]) d g3 g4) (rGv rfl rfl)))
theorem equalTerms_spec (x y : T) {v w : Value} (hv : RepV μ x.tm.d v) (hw : RepV μ y.tm.d w) : Gives Try.prog 67 [v, w] μ (.bool (decide (x = y))) := by
 have w_ := Tm.invV hv
 obtain ⟨p, rfl⟩ := w_
 have w_ := Tm.invV hw
 obtain ⟨q, rfl⟩ := w_
 refine Spec.mk Try.func67 (by kernel_rfl) ?_
 intro r1 r2
 exact cGv (orderTerms_spec x y hv hw) (rGv (isI (T.cmp_zero x y)) rfl)
end
end Go.Vx
namespace Go.Vx
open Go.Proofs Classical
def mgen (bs bt : List B) : Prop := ∀ b ∈ bs, ∃ x, fit ((T.var b.var).subst (sub bt)) = some x ∧ fit (b.to.subst (sub bt)) = some x
def moreGen (l m : List Bd) : Prop := substOk l ∧ substOk m ∧ mgen (l.map Bd.b) (m.map Bd.b)
theorem moreGen_iff (bs bt : List B) : moreGen (bs.map B.bd) (bt.map B.bd) ↔ Subst bs ∧ Subst bt ∧ mgen bs bt := by
 unfold moreGen
 rw [substOk_iff, substOk_iff, B.map_b, B.map_b]
section
variable {μ : Mem}
theorem moreGeneral_spec {bs bt : List B} {base base2 : Option Addr} {cap cap2 : Nat} (hsl : Sl μ 5 base bs.length ((bs.map B.bd).map Bd.d)) (hsl2 : Sl μ 5 base2 bt.length ((bt.map B.bd).map Bd.d)) (hn : bs.length ≤ 1000000000) (ht : Vals bt) :
  Gives Try.prog 74 [.slice base bs.length cap, .slice base2 bt.length cap2] μ (.bool (decide (mgen bs bt))) := by
 have htl := ht.len
 refine Spec.forget (Spec.mk Try.func74 (by kernel_rfl) ?_)
 have good : mgen bs bt → Value.bool true = .bool (decide (mgen bs bt)) := isT
 refine lIn (fun p : Nat × Mem => p.1 ≤ bs.length ∧ μ.Le p.2 ∧ ∀ (j : Nat) b, j < p.1 → bs[j]? = some b → ∃ x, fit ((T.var b.var).subst (sub bt)) = some x ∧ fit (b.to.subst (sub bt)) = some x)
  (fun (i, μ') => ⟨[(1, .val (.slice base2 bt.length cap2)), (11, .val (.slice base bs.length cap)), (12, .val (.int .i64 bs.length)), (13, .val (.int .i64 i))], [], 0, μ', Mem.nil⟩) (fun p => bs.length - p.1)
  (0, μ) ⟨by simp, Mem.Le.refl μ, fun j b hj => by simp at hj⟩ (fun (_, _) => ⟨rfl, rfl⟩) ⟨⟨rfl, rfl, rfl, rfl, trivial⟩, trivial, rfl, rfl⟩ ?_
 rintro ⟨i, μ'⟩ ⟨hi, hle, hall⟩
 dsimp only at hi hle hall
 refine ifd (fun h => ?_) (fun h => ?_)
 rotate_left
 ·obtain rfl : i = bs.length := by omega
  exact rPl (good fun b hb => by
   have w_ := List.mem_iff_getElem?.1 hb
   obtain ⟨j, hj⟩ := w_
   exact hall j b (List.getElem?_eq_some_iff.1 hj).1 hj)
 have w_ := aSo (l := bs) (i := i) (by omega)
 obtain ⟨b, hb⟩ := w_
 have w_ := B.elem (hsl.mono hle) hb
 obtain ⟨ad, p, hel, hto⟩ := w_
 have hsl2' := hsl2.mono hle
 refine eIn hel ?_
 intro r
 have bad : (¬ ∃ x, fit ((T.var b.var).subst (sub bt)) = some x ∧ fit (b.to.subst (sub bt)) = some x) → Value.bool false = .bool (decide (mgen bs bt)) := fun k => isF fun hm => k (hm b (mAt hb))
 refine cGv (variable_spec _) ?_
 refine cPl (put_spec (T.var b.var) ht.srt (by omega) ht.tok hsl2' (varV_rep _)) fun v1 μ1 hle1 hR1 => ?_
 have w_ := optV_fresh hR1
 obtain ⟨tv1, rfl, hf1⟩ := w_
 have w_ := Tm.invV hf1.rep
 obtain ⟨p1, rfl⟩ := w_
 intro r7
 refine cPl (put_spec b.to ht.srt (by omega) ht.tok (hsl2'.mono hle1) (hto.mono hle1)) fun v2 μ2 hle2 hR2 => ?_
 have w_ := optV_fresh hR2
 obtain ⟨tv2, rfl, hf2⟩ := w_
 have w_ := Tm.invV hf2.rep
 obtain ⟨p2, rfl⟩ := w_
 intro r9
 cases e1 : fit ((T.var b.var).subst (sub bt)) with
 | none => exact iIn (fun _ => rPl (bad fun ⟨x, k, _⟩ => by rw [e1] at k; cases k)) (fun h => nomatch h)
 | some x1 =>
  refine iIn (fun h => nomatch h) (fun _ => ?_)
  cases e2 : fit (b.to.subst (sub bt)) with
  | none => exact iIn (fun _ => rPl (bad fun ⟨x, _, k⟩ => by rw [e2] at k; cases k)) (fun h => nomatch h)
  | some x2 =>
   refine iIn (fun h => nomatch h) (fun _ => ?_)
   rw [e1] at hf1
   rw [e2] at hf2
   refine cGv (equalTerms_spec x1 x2 (hf1.rep.mono hle2) hf2.rep) ?_
   refine ifnd (fun h => rPl (bad fun ⟨x, k1, k2⟩ => by rw [e1] at k1; rw [e2] at k2; cases k1; cases k2; exact h rfl)) (fun h => ?_)
   subst h
   refine num64 (by omega) (by omega) ⟨(i + 1, μ2), ⟨by dsimp only; omega, (hle.trans hle1).trans hle2, fun j c hj hc => ?_⟩, by dsimp only; omega, ⟨⟨rfl, rfl, rfl, rfl, trivial⟩, trivial, rfl, rfl⟩⟩
   dsimp only at hj
   rcases Nat.lt_or_ge j i with h6 | h6
   ·exact hall j c h6 hc
   ·obtain rfl : j = i := by omega
    rw [hb] at hc; cases hc; exact ⟨_, e1, e2⟩
theorem impl_MoreGeneral_spec {l m : List Bd} {base base2 : Option Addr} {cap cap2 : Nat} (hsl : Sl μ 5 base l.length (l.map Bd.d)) (hsl2 : Sl μ 5 base2 m.length (m.map Bd.d)) :
  Gives Try.prog 25 [.slice base l.length cap, .slice base2 m.length cap2] μ (.bool (decide (moreGen l m))) := by
 refine Spec.mk Try.func25 (by kernel_rfl) ?_
 refine cGv (impl_SubstOk_spec hsl) ?_
 refine ifd (fun h1 => ?_) (fun h1 => rGv (isF fun k => h1 k.1) rfl)
 refine cGv (impl_SubstOk_spec hsl2) ?_
 refine ifd (fun h2 => ?_) (fun h2 => rGv (isF fun k => h2 k.2.1) rfl)
 obtain ⟨bs, rfl, hbs⟩ := h1.subst
 obtain ⟨bt, rfl, hbt⟩ := h2.subst
 rw [List.length_map] at hsl ⊢
 rw [List.length_map] at hsl2 ⊢
 have hlen := hbs.vals.len
 refine cGv (moreGeneral_spec hsl hsl2 (by omega) hbt.vals) (rGv (isI ?_) rfl)
 rw [moreGen_iff]
 exact ⟨fun k => ⟨hbs, hbt, k⟩, fun k => k.2.2⟩
end
end Go.Vx
namespace Go.Vx
open Go.Proofs Classical
def differ (bl : List B) (b : B) : Prop := ∃ x y, fit ((T.var b.var).subst (sub bl)) = some x ∧ fit (b.to.subst (sub bl)) = some y ∧ x ≠ y
def disHolds (l m : List Bd) : Prop := substOk l ∧ valsOk m ∧ ∃ b ∈ l.map Bd.b, differ (m.map Bd.b) b
theorem disHolds_iff (bs bl : List B) : disHolds (bs.map B.bd) (bl.map B.bd) ↔ Subst bs ∧ Vals bl ∧ ∃ b ∈ bs, differ bl b := by
 unfold disHolds
 rw [substOk_iff, B.map_b, B.map_b]
 exact ⟨fun h => ⟨h.1, ⟨h.2.1⟩, h.2.2⟩, fun h => ⟨h.1, h.2.1.1, h.2.2⟩⟩
section
variable {μ : Mem}
theorem impl_DisequalityHolds_spec {l m : List Bd} {base base2 : Option Addr} {cap cap2 : Nat} (hsl : Sl μ 5 base l.length (l.map Bd.d)) (hsl2 : Sl μ 5 base2 m.length (m.map Bd.d)) :
  Gives Try.prog 24 [.slice base l.length cap, .slice base2 m.length cap2] μ (.bool (decide (disHolds l m))) := by
 refine Spec.forget (Spec.mk Try.func24 (by kernel_rfl) ?_)
 refine cGv (impl_SubstOk_spec hsl) ?_
 refine ifnd (fun h => rPl (isF fun k => h k.1)) (fun h1 => ?_)
 refine cGv (impl_ValuesOk_spec hsl2) ?_
 refine ifnd (fun h => rPl (isF fun k => h k.2.1)) (fun h2 => ?_)
 obtain ⟨bs, rfl, hbs⟩ := h1.subst
 obtain ⟨bt, rfl, ht⟩ := h2.vals
 rw [List.length_map] at hsl ⊢
 rw [List.length_map] at hsl2 ⊢
 have hn := hbs.vals.len
 have htl := ht.len
 let good := differ bt
 have none : (∀ b ∈ bs, ¬ good b) → Value.bool false = .bool (decide (disHolds (bs.map B.bd) (bt.map B.bd))) := fun k => isF fun h => by
  have w_ := ((disHolds_iff bs bt).1 h).2.2
  obtain ⟨b, hb, h⟩ := w_
  exact k b hb h
 refine lIn (fun p : Nat × Mem => p.1 ≤ bs.length ∧ μ.Le p.2 ∧ ∀ (j : Nat) b, j < p.1 → bs[j]? = some b → ¬ good b)
  (fun (i, μ') => ⟨[(1, .val (.slice base2 bt.length cap2)), (19, .val (.slice base bs.length cap)), (20, .val (.int .i64 bs.length)), (21, .val (.int .i64 i))], [], 0, μ', Mem.nil⟩) (fun p => bs.length - p.1)
  (0, μ) ⟨by simp, Mem.Le.refl μ, fun j b hj => by simp at hj⟩ (fun (_, _) => ⟨rfl, rfl⟩) ⟨⟨rfl, rfl, rfl, rfl, trivial⟩, trivial, rfl, rfl⟩ ?_
 rintro ⟨i, μ'⟩ ⟨hi, hle, hall⟩
 dsimp only at hi hle hall
 refine ifd (fun h => ?_) (fun h => ?_)
 rotate_left
 ·obtain rfl : i = bs.length := by omega
  exact rPl (none fun b hb => by
   have w_ := List.mem_iff_getElem?.1 hb
   obtain ⟨j, hj⟩ := w_
   exact hall j b (List.getElem?_eq_some_iff.1 hj).1 hj)
 have w_ := aSo (l := bs) (i := i) (by omega)
 obtain ⟨b, hb⟩ := w_
 have w_ := B.elem (hsl.mono hle) hb
 obtain ⟨ad, p, hel, hto⟩ := w_
 have hsl2' := hsl2.mono hle
 have fin : ∀ μ3, μ'.Le μ3 → ¬ good b → i + 1 ≤ bs.length ∧ μ.Le μ3 ∧ ∀ (j : Nat) c, j < i + 1 → bs[j]? = some c → ¬ good c := fun μ3 hle3 hg => ⟨by omega, hle.trans hle3, fun j c hj hc => by
  rcases Nat.lt_or_ge j i with h6 | h6
  ·exact hall j c h6 hc
  ·obtain rfl : j = i := by omega
   rw [hb] at hc; cases hc; exact hg⟩
 refine eIn hel ?_
 intro r
 have no : ¬ differ bt b → ¬ good b := id
 have yes : ∀ b ∈ bs, differ bt b → Value.bool true = .bool (decide (disHolds (bs.map B.bd) (bt.map B.bd))) := fun b hb h => isT ((disHolds_iff bs bt).2 ⟨hbs, ht, b, hb, h⟩)
 refine cGv (variable_spec _) ?_
 refine cPl (put_spec (T.var b.var) ht.srt (by omega) ht.tok hsl2' (varV_rep _)) fun v1 μ1 hle1 hR1 => ?_
 have w_ := optV_fresh hR1
 obtain ⟨tv1, rfl, hf1⟩ := w_
 have w_ := Tm.invV hf1.rep
 obtain ⟨p1, rfl⟩ := w_
 intro r7
 refine cPl (put_spec b.to ht.srt (by omega) ht.tok (hsl2'.mono hle1) (hto.mono hle1)) fun v2 μ2 hle2 hR2 => ?_
 have w_ := optV_fresh hR2
 obtain ⟨tv2, rfl, hf2⟩ := w_
 have w_ := Tm.invV hf2.rep
 obtain ⟨p2, rfl⟩ := w_
 intro r9
 cases e1 : fit ((T.var b.var).subst (sub bt)) with
 | none => exact iIn (fun h => nomatch h) (fun _ => num64 (by omega) (by omega) ⟨(i + 1, μ2), fin μ2 (hle1.trans hle2) (no (by rintro ⟨x, y, k, _⟩; first | cases k | (rw [e1] at k; cases k))), by dsimp only; omega, ⟨⟨rfl, rfl, rfl, rfl, trivial⟩, trivial, rfl, rfl⟩⟩)
 | some x1 =>
  refine iIn (fun _ => ?_) (fun h => nomatch h)
  cases e2 : fit (b.to.subst (sub bt)) with
  | none => exact iIn (fun h => nomatch h) (fun _ => num64 (by omega) (by omega) ⟨(i + 1, μ2), fin μ2 (hle1.trans hle2) (no (by rintro ⟨x, y, _, k, _⟩; first | cases k | (rw [e2] at k; cases k))), by dsimp only; omega, ⟨⟨rfl, rfl, rfl, rfl, trivial⟩, trivial, rfl, rfl⟩⟩)
  | some x2 =>
   refine iIn (fun _ => ?_) (fun h => nomatch h)
   rw [e1] at hf1
   rw [e2] at hf2
   refine cGv (equalTerms_spec x1 x2 (hf1.rep.mono hle2) hf2.rep) ?_
   refine ifnd (fun h9 => ?_) (fun h9 => ?_)
   ·exact rPl (yes b (mAt hb) ⟨x1, x2, e1, e2, h9⟩)
   ·exact num64 (by omega) (by omega) ⟨(i + 1, μ2), fin μ2 (hle1.trans hle2) (no (by rintro ⟨x, y, k1, k2, k3⟩; first | cases k1 | (rw [e1] at k1; cases k1); first | cases k2 | (rw [e2] at k2; cases k2); exact k3 h9)), by dsimp only; omega, ⟨⟨rfl, rfl, rfl, rfl, trivial⟩, trivial, rfl, rfl⟩⟩
end
end Go.Vx
namespace Go.Vx
open Go.Proofs Classical
section
variable {μ : Mem}
theorem Rep.src {es n cap : Nat} {base : Option Addr} {ds : List D} (h : RepV μ (.sl es ds) (.slice base n cap)) :
  ∃ vs, Rows μ es ds vs ∧ vs.length = n ∧ n ≤ cap ∧ ∀ a b, a ≤ b → b ≤ n → SrcAt μ (if cap = a then base else base.map (·.add (a * es))) (b - a) es ((vs.drop a).take (b - a)) := by
 have h' : Rep μ (.sl es ds) [.slice base n cap] := h
 have hcap := Rep.lens h'
 obtain ⟨b0, c0, h1, h2, h3, h4⟩ := h'
 simp only [List.cons.injEq, and_true] at h1
 have w_ := Value.slice.inj h1
 obtain ⟨rfl, rfl, rfl⟩ := w_
 have : ∃ vs, Rows μ es ds vs ∧ (ds = [] ∨ ∃ a0, base = some a0 ∧ CellsAt μ a0 (vs.flatMap vcells)) := by
  rcases h4 with rfl | ⟨a0, flat, g1, g2, g3⟩
  ·exact ⟨[], .nil, .inl rfl⟩
  ·have w_ := RepS.rows g3 h3
   obtain ⟨vs, hr, rfl⟩ := w_
   exact ⟨vs, hr, .inr ⟨a0, g1, g2⟩⟩
 obtain ⟨vs, hr, hc⟩ := this
 have hlen := hr.len
 refine ⟨vs, hr, hlen.symm, hcap, fun a b hab hb => ⟨by simp; omega, fun y hy => hr.size y (List.mem_of_mem_drop (List.mem_of_mem_take hy)), ?_⟩⟩
 rcases Nat.eq_or_lt_of_le hab with e | hlt
 ·exact .inl (by omega)
 ·right
  rcases hc with e | ⟨a0, e, hcell⟩
  ·subst e; simp at hb; omega
  ·subst e
   refine ⟨a0.add (a * es), by rw [if_neg (by omega)]; rfl, fun j v hj => ?_⟩
   rw [add_add]
   refine hcell _ _ ?_
   have e1 : vs.flatMap vcells = (vs.take a).flatMap vcells ++ (((vs.drop a).take (b - a)).flatMap vcells ++ ((vs.drop a).drop (b - a)).flatMap vcells) := by
    rw [← List.flatMap_append, List.take_append_drop, ← List.flatMap_append, List.take_append_drop]
   have e2 : ((vs.take a).flatMap vcells).length = a * es := by
    rw [flat_len (es := es) (vs.take a) fun y hy => (hr.size y (List.mem_of_mem_take hy)).1]
    congr 1; simp; omega
   rw [e1, List.getElem?_append_right (by omega), e2, Nat.add_sub_cancel_left, List.getElem?_append_left (List.getElem?_eq_some_iff.1 hj).1]
   exact hj
theorem insAt_length {α : Type} (l : List α) (x : α) (k : Nat) : (insAt l x k).length = l.length + 1 := by
 have := congrArg List.length (List.take_append_drop k l)
 simp only [insAt, List.length_append, List.length_singleton] at *
 omega
def InsPos (bs : List B) (n : Int) (k : Nat) : Prop := k ≤ bs.length ∧ (∀ c, bs[k - 1]? = some c → 0 < k → c.var ≤ n) ∧ ∀ j c, k ≤ j → bs[j]? = some c → n < c.var
end
end Go.Vx
namespace Go.Vx
open Go.Proofs Classical
structure VK where
 var : Int
 kind : Int
def VK.d (x : VK) : D := .st [.i x.var, .i x.kind]
theorem VK.d_eq (x : VK) : x.d = .st [.i x.var, .i x.kind] := rfl
theorem VK.d_n (x : VK) : x.d.n = 2 := by
 rw [VK.d_eq]
 simp only [D.n, D.ns]
abbrev VK.P := Unit
def VK.cs (x : VK) (_p : VK.P) : List Value := [.int .i64 x.var, .int .i64 x.kind]
section
variable {μ : Mem}
def VK.At (_μ : Mem) (_x : VK) (_p : VK.P) : Prop := True
theorem VK.invA {x : VK} {cs : List Value} (h : Rep μ x.d cs) : ∃ p : VK.P, cs = x.cs p ∧ VK.At μ x p := by
 rw [VK.d_eq] at h
 obtain ⟨a0, t0, rfl, h0, h⟩ := h
 have h0 : a0 = [.int .i64 x.var] := h0
 subst h0
 obtain ⟨a1, t1, rfl, h1, h⟩ := h
 have h1 : a1 = [.int .i64 x.kind] := h1
 subst h1
 obtain rfl : t1 = [] := h
 exact ⟨(), by simp [VK.cs], trivial⟩
theorem VK.rep {x : VK} {cs : List Value} (h : Rep μ x.d cs) : RepV μ x.d (.agg cs.toArray) := by
 rw [VK.d_eq] at h ⊢; exact ⟨cs, rfl, h⟩
theorem VK.inv {x : VK} {v : Value} (h : RepV μ x.d v) : ∃ p : VK.P, v = .agg #[.int .i64 x.var, .int .i64 x.kind] ∧ VK.At μ x p := by
 have h2 : ∃ cs, v = .agg (List.toArray cs) ∧ Rep μ x.d cs := by rw [VK.d_eq] at h ⊢; exact h
 obtain ⟨cs, rfl, h3⟩ := h2
 have w_ := VK.invA h3
 obtain ⟨p, rfl, hA⟩ := w_
 exact ⟨p, rfl, hA⟩
theorem VK.invV {x : VK} {v : Value} (h : RepV μ x.d v) : ∃ _ : VK.P, v = .agg #[.int .i64 x.var, .int .i64 x.kind] := by
 have w_ := VK.inv h
 obtain ⟨p, h, _⟩ := w_
 exact ⟨p, h⟩
theorem VK.elemA {l : List VK} {base : Option Addr} {n : Nat} (h : Sl μ 2 base n (l.map VK.d)) {i : Nat} {x : VK} (hx : l[i]? = some x) : ∃ ad, ∃ p : VK.P, ElemAt μ base n 2 i ad (x.cs p) ∧ RepV μ x.d (.agg (x.cs p).toArray) ∧ VK.At μ x p := by
 have w_ := h.get i x.d (by simp [hx])
 obtain ⟨ad, cs, h1, h2⟩ := w_
 have w_ := VK.invA h2
 obtain ⟨p, rfl, hA⟩ := w_
 exact ⟨ad, p, h1, VK.rep h2, hA⟩
theorem VK.elem {l : List VK} {base : Option Addr} {n : Nat} (h : Sl μ 2 base n (l.map VK.d)) {i : Nat} {x : VK} (hx : l[i]? = some x) : ∃ ad, ∃ p : VK.P, ElemAt μ base n 2 i ad (x.cs p) ∧ RepV μ x.d (.agg (x.cs p).toArray) := by
 have w_ := VK.elemA h hx
 obtain ⟨ad, p, h1, h2, _⟩ := w_
 exact ⟨ad, p, h1, h2⟩
end
end Go.Vx
namespace Go.Vx
open Go.Proofs Classical
section
variable {μ : Mem}
theorem Rep.srcAll {es n cap : Nat} {base : Option Addr} {ds : List D} (h : RepV μ (.sl es ds) (.slice base n cap)) : ∃ vs, Rows μ es ds vs ∧ vs.length = n ∧ SrcAt μ base n es vs := by
 have w_ := Rep.src h
 obtain ⟨vs, hrows, hvl, hcap, hsrc⟩ := w_
 have := hsrc 0 n (Nat.zero_le _) (Nat.le_refl _)
 have e1 : (if cap = 0 then base else base.map (·.add (0 * es))) = base := by
  split
  ·rfl
  ·cases base with
   | none => rfl
   | some a => simp [Addr.add]
 rw [e1, Nat.sub_zero, List.drop_zero, List.take_of_length_le (by omega)] at this
 exact ⟨vs, hrows, hvl, this⟩
end
end Go.Vx
namespace Go.Vx
open Go.Proofs Classical
section
variable {μ : Mem}
theorem apartB {h : Mem} {r r' cap es : Nat} {ty : TypeId} {ys : List Value} (hb : RowO h r cap ty es ys) (hap : Apart μ h) (hor : r' = r ∨ (h r' = none ∧ μ r' = none)) : μ r' = none := by
 rcases hor with rfl | ⟨_, h2⟩
 ·obtain ⟨cs, h1, _⟩ := hb
  cases e : μ r' with
  | none => rfl
  | some o => have := hap r' (by simp [e]); rw [h1] at this; cases this
 ·exact h2
end
end Go.Vx
namespace Go.Vx
open Go.Sort
section
variable {α : Type} {lt : α → α → Bool}
theorem lt_asymm (hS : SWO lt) {x y : α} (h : lt x y = true) : lt y x = false := by
 cases g : lt y x with
 | false => rfl
 | true => have := hS.trans _ _ _ h g; rw [hS.irrefl] at this; cases this
theorem lt_of_not (hS : SWO lt) {x y z : α} (h : lt x z = true) (g : lt x y = false) : lt y z = true := by
 cases k : lt y z with
 | true => rfl
 | false => have := hS.ntrans _ _ _ g k; rw [h] at this; cases this
theorem lt_of_not' (hS : SWO lt) {x y z : α} (h : lt x z = true) (g : lt y z = false) : lt x y = true := by
 cases k : lt x y with
 | true => rfl
 | false => have := hS.ntrans _ _ _ k g; rw [h] at this; cases this
end
section
variable {α : Type} [Inhabited α] {lt : α → α → Bool} {d c R : Array α}
theorem Rot.gt {m i j : Nat} (hi : i ≤ m) (hj : j < i) (s : Sw (m - i) m j d c) (r : Rot (m - (i - j)) m (m + j) c R) : Rot (m - i) m (m + j) d R where
 size := r.size.trans s.size
 out k hk := by rw [r.out k (by omega), s.out k (by omega) (by omega)]
 lo t ht := by rw [r.out _ (by omega), s.fst t (by omega)]
 hi t ht := by
  by_cases h : t < j
  ·have := r.lo t (by omega)
   rw [show m - i + (m + j - m) + t = m - (i - j) + t by omega, this, s.snd t h]
  ·obtain ⟨u, rfl⟩ : ∃ u, t = j + u := ⟨t - j, by omega⟩
   have := r.hi u (by omega)
   rw [show m - i + (m + j - m) + (j + u) = m - (i - j) + (m + j - m) + u by omega, this, s.out _ (by omega) (by omega), show m - (i - j) + u = m - i + (j + u) by omega]
theorem Rot.ls {m i j : Nat} (hi : i ≤ m) (hj : i < j) (s : Sw (m - i) (m + j - i) i d c) (r : Rot (m - i) m (m + (j - i)) c R) : Rot (m - i) m (m + j) d R where
 size := r.size.trans s.size
 out k hk := by rw [r.out k (by omega), s.out k (by omega) (by omega)]
 lo t ht := by
  by_cases h : t < j - i
  ·rw [r.lo t (by omega), s.out _ (by omega) (by omega)]
  ·obtain ⟨u, rfl⟩ : ∃ u, t = j - i + u := ⟨t - (j - i), by omega⟩
   have := r.hi u (by omega)
   rw [show m - i + (j - i + u) = m - i + (m + (j - i) - m) + u by omega, this, s.fst u (by omega), show m + j - i + u = m + (j - i + u) by omega]
 hi t ht := by
  rw [show m - i + (m + j - m) + t = m + j - i + t by omega, r.out _ (by omega), s.snd t (by omega)]
section
variable {s m e : Nat}
theorem Rot.at1 (r : Rot s m e d R) {k : Nat} (h : k < s) : R[k]! = d[k]! := r.out k (.inl h)
theorem Rot.at2 (r : Rot s m e d R) {k : Nat} (h : s ≤ k) (h2 : k < s + (e - m)) : R[k]! = d[m + (k - s)]! := by
 have := r.lo (k - s) (by omega)
 rwa [show s + (k - s) = k by omega] at this
theorem Rot.at3 (r : Rot s m e d R) {k : Nat} (hm : m ≤ e) (h : s + (e - m) ≤ k) (h2 : k < e) (hs : s ≤ m) : R[k]! = d[s + (k - (s + (e - m)))]! := by
 have := r.hi (k - (s + (e - m))) (by omega)
 rwa [show s + (e - m) + (k - (s + (e - m))) = k by omega] at this
theorem Rot.at4 (r : Rot s m e d R) {k : Nat} (h : e ≤ k) : R[k]! = d[k]! := r.out k (.inr h)
def Split (lt : α → α → Bool) (a q b : Nat) (d : Array α) : Prop := ∀ x y, a ≤ x → x < q → q ≤ y → y < b → lt d[y]! d[x]! = false
theorem sorted_join {a q b : Nat} (h1 : SortedIn lt a q d) (h2 : SortedIn lt q b d) (h : Split lt a q b d) : SortedIn lt a b d := fun i j hi hij hj => by
 by_cases h3 : j < q
 ·exact h1 i j hi hij h3
 ·by_cases h4 : i < q
  ·exact h i j hi h4 (by omega) hj
  ·exact h2 i j (by omega) hij hj
theorem Cut.split {a b : Nat} (k : Cut lt a s m e b d) (h1 : SortedIn lt a m d) (h2 : SortedIn lt m b d) (r : Rot s m e d R) : Split lt a (s + (e - m)) b R := fun x y hx hxq hy hyb => by
 have := k.sa; have := k.sm; have := k.me; have := k.eb
 by_cases g1 : x < s
 ·rw [r.at1 g1]
  by_cases g2 : y < e
  ·rw [r.at3 k.me hy g2 k.sm]; exact h1 _ _ hx (by omega) (by omega)
  ·rw [r.at4 (by omega)]; exact k.lo _ _ hx g1 (by omega) hyb
 ·rw [r.at2 (by omega) hxq]
  by_cases g2 : y < e
  ·rw [r.at3 k.me hy g2 k.sm]; exact k.hi _ _ (by omega) (by omega) (by omega) (by omega)
  ·rw [r.at4 (by omega)]; exact h2 _ _ (by omega) (by omega) hyb
theorem Rot.s1 {a : Nat} (r : Rot s m e d R) (h1 : SortedIn lt a m d) (hs : s ≤ m) : SortedIn lt a s R := fun i j hi hij hj => by
 rw [r.at1 hj, r.at1 (by omega)]; exact h1 _ _ hi hij (by omega)
theorem Rot.s2 {b : Nat} (r : Rot s m e d R) (h2 : SortedIn lt m b d) (he : e ≤ b) (hm : m ≤ e) : SortedIn lt s (s + (e - m)) R := fun i j hi hij hj => by
 rw [r.at2 (by omega) hj, r.at2 hi (by omega)]; exact h2 _ _ (by omega) (by omega) (by omega)
theorem Rot.s3 {a : Nat} (r : Rot s m e d R) (h1 : SortedIn lt a m d) (ha : a ≤ s) (hs : s ≤ m) (hm : m ≤ e) : SortedIn lt (s + (e - m)) e R := fun i j hi hij hj => by
 rw [r.at3 hm (by omega) hj hs, r.at3 hm hi (by omega) hs]; exact h1 _ _ (by omega) (by omega) (by omega)
theorem Rot.s4 {b : Nat} (r : Rot s m e d R) (h2 : SortedIn lt m b d) (hm : m ≤ e) : SortedIn lt e b R := fun i j hi hij hj => by
 rw [r.at4 (by omega), r.at4 (by omega)]; exact h2 _ _ (by omega) hij hj
theorem Rot.up0 (a : Nat) (d : Array α) : Rot a (a + 1) (a + 1) d d := ⟨rfl, fun _ _ => rfl, fun t h => by omega, fun t h => by congr 1; omega⟩
theorem Rot.down {k m : Nat} (h : Rot (k + 1) m (m + 1) d c) (hk : k < m) (hm : m < d.size) : Rot k m (m + 1) d (swp c (k + 1) k) := by
 have g : ∀ x, (swp c (k + 1) k)[x]! = if x = k then c[k + 1]! else if x = k + 1 then c[k]! else c[x]! := fun x => swp_get c (by rw [h.size]; omega) (by rw [h.size]; omega) x
 refine ⟨by rw [Go.Sort.swp_size, h.size], fun x hx => ?_, fun t ht => ?_, fun t ht => ?_⟩
 ·rw [g, if_neg (by omega), if_neg (by omega), h.out x (by omega)]
 ·obtain rfl : t = 0 := by omega
  rw [g, if_pos (by omega)]
  have := h.lo 0 (by omega)
  rwa [show k + 1 + 0 = k + 1 by omega] at this
 ·rw [g, if_neg (by omega)]
  cases t with
  | zero => rw [if_pos (by omega), h.out _ (by omega)]; congr 1
  | succ t =>
   rw [if_neg (by omega)]
   have := h.hi t (by omega)
   rw [show k + (m + 1 - m) + (t + 1) = k + 1 + (m + 1 - m) + t by omega, this, show k + 1 + t = k + (t + 1) by omega]
theorem Rot.down0 (m : Nat) (d : Array α) : Rot m m (m + 1) d d := ⟨rfl, fun _ _ => rfl, fun t h => by congr 1, fun t h => by omega⟩
end
end
end Go.Vx
namespace Go.Vx
open Go.Proofs Classical
theorem Ord3.swo {α : Type} {c : α → α → Int} (h : Ord3 c) : Go.Sort.SWO fun x y => decide (c x y < 0) where
 irrefl x := by have := (h.zero x x).2 rfl; simp; omega
 trans x y z h1 h2 := by
  simp only [decide_eq_true_eq] at *
  exact h.trans _ _ _ h1 h2
 ntrans x y z h1 h2 := by
  simp only [decide_eq_false_iff_not] at *
  intro h3
  by_cases e : x = y
  ·subst e; exact h2 h3
  ·by_cases e2 : y = z
   ·subst e2; exact h1 h3
   ·have a1 := h.anti x y; have a2 := h.anti y x; have z1 := h.zero x y; have z2 := h.zero y x
    have b1 := h.anti y z; have b2 := h.anti z y; have w1 := h.zero y z; have w2 := h.zero z y
    have p1 : c x y ≠ 0 := fun k => e (z1.1 k)
    have p2 : c y z ≠ 0 := fun k => e2 (w1.1 k)
    have q1 : c y x < 0 := a2.2 (by omega)
    have q2 : c z y < 0 := b2.2 (by omega)
    have q3 := h.trans _ _ _ q2 q1
    have a3 := h.anti x z
    omega
end Go.Vx
namespace Go.Vx
open Go.Proofs Classical
section
variable {α : Type} {c : α → α → Int}
theorem Ord3.ge_pos (h : Ord3 c) {x y : α} (h1 : ¬ c x y < 0) (h2 : c x y ≠ 0) : c y x < 0 := (h.anti y x).2 (by omega)
theorem Ord3.ne_comm (h : Ord3 c) {x y : α} (h2 : c x y ≠ 0) : c y x ≠ 0 := fun k => h2 ((h.zero _ _).2 ((h.zero _ _).1 k).symm)
theorem Ord3.le_lt (h : Ord3 c) {x y z : α} (h1 : ¬ c y x < 0) (h2 : c y z < 0) : c x z < 0 := by
 by_cases e : c y x = 0
 ·rw [← (h.zero _ _).1 e]; exact h2
 ·exact h.trans _ _ _ (h.ge_pos h1 e) h2
theorem Asc3.ins (h : Ord3 c) {l : List α} {e : α} {k : Nat} (hl : Asc3 c l) (h1 : ∀ x ∈ l.take k, c x e < 0) (h2 : ∀ x ∈ l.drop k, c e x < 0) : Asc3 c (insAt l e k) := by
 rw [insAt, Asc3, List.pairwise_append]
 refine ⟨hl.sublist (List.take_sublist _ _), ?_, fun a ha b hb => ?_⟩
 ·exact List.pairwise_cons.2 ⟨h2, hl.sublist (List.drop_sublist _ _)⟩
 ·rcases List.mem_cons.1 hb with rfl | hb
  ·exact h1 a ha
  ·exact h.trans _ _ _ (h1 a ha) (h2 b hb)
theorem exists_ins (h : Ord3 c) (e : α) : ∀ l : List α, Asc3 c l → e ∈ l ∨ ∃ k, (∀ x ∈ l.take k, c x e < 0) ∧ ∀ x ∈ l.drop k, c e x < 0
 | [], _ => .inr ⟨0, by simp, by simp⟩
 | a :: l, hl => by
  have w_ := List.pairwise_cons.1 hl
  obtain ⟨ha, hl⟩ := w_
  by_cases h0 : c e a = 0
  ·exact .inl (by rw [(h.zero _ _).1 h0]; simp)
  ·by_cases h1 : c e a < 0
   ·exact .inr ⟨0, by simp, fun x hx => by
     rcases List.mem_cons.1 hx with rfl | hx
     ·exact h1
     ·exact h.trans _ _ _ h1 (ha x hx)⟩
   ·have h3 := h.ge_pos h1 h0
    rcases exists_ins h e l hl with k | ⟨k, k1, k2⟩
    ·exact .inl (List.mem_cons_of_mem _ k)
    ·exact .inr ⟨k + 1, fun x hx => by
      rw [List.take_succ_cons] at hx
      rcases List.mem_cons.1 hx with rfl | hx
      ·exact h3
      ·exact k1 x hx, fun x hx => k2 x (by simpa using hx)⟩
theorem exists_asc (h : Ord3 c) : ∀ l : List α, ∃ m, Asc3 c m ∧ m.length ≤ l.length ∧ ∀ x, x ∈ m ↔ x ∈ l
 | [] => ⟨[], List.Pairwise.nil, Nat.le_refl _, fun _ => Iff.rfl⟩
 | a :: l => by
  have w_ := exists_asc h l
  obtain ⟨m, h1, h9, h2⟩ := w_
  rcases exists_ins h a m h1 with k | ⟨k, k1, k2⟩
  ·exact ⟨m, h1, by rw [List.length_cons]; omega, fun x => by
    rw [h2 x, List.mem_cons]
    exact ⟨.inr, fun g => g.elim (fun e => by subst e; exact (h2 _).1 k) id⟩⟩
  ·exact ⟨insAt m a k, h1.ins h k1 k2, by rw [insAt_length, List.length_cons]; omega, fun x => by rw [insAt_mem, h2 x, List.mem_cons]⟩
noncomputable def ascOf (h : Ord3 c) (l : List α) : List α := (exists_asc h l).choose
theorem ascOf_asc (h : Ord3 c) (l : List α) : Asc3 c (ascOf h l) := (exists_asc h l).choose_spec.1
theorem ascOf_mem (h : Ord3 c) (l : List α) (x : α) : x ∈ ascOf h l ↔ x ∈ l := (exists_asc h l).choose_spec.2.2 x
theorem ascOf_eq (h : Ord3 c) {l m : List α} (hm : Asc3 c m) (e : ∀ x, x ∈ m ↔ x ∈ l) : m = ascOf h l := hm.uniq h (ascOf_asc h l) fun x => by rw [e, ascOf_mem]
end
end Go.Vx
namespace Go.Vx
open Go.Proofs Classical
open Go.Sort
abbrev fdata (lf sf : FuncId) (lb sb : List Value) : Value := .agg #[.func (.func lf) #[] lb.toArray, .func (.func sf) #[] sb.toArray]
abbrev fblk (r : Nat) (lf sf : FuncId) (lb sb : List Value) : List (Nat × Option LB) := [(0, some (.cells r [.val (.func (.func lf) #[] lb.toArray), .val (.func (.func sf) #[] sb.toArray)] 141))]
structure SortBy {α : Type} [Inhabited α] (lf sf : FuncId) (lb sb : List Value) (n : Nat) (lt : α → α → Bool) (μ0 : Mem) (J : Array α → Mem) (V : Array α → Prop) : Prop where
 max : n ≤ 1000000000000
 size : ∀ {d}, V d → d.size = n
 sw : ∀ {d : Array α} {i j : Nat}, V d → i < n → j < n → V (swp d i j)
 dom : ∀ {d d' : Array α} {b : Nat}, V d → V d' → J d b = none → J d' b = none
 less : ∀ {μ : Mem} {d : Array α} {i j : Nat}, μ0.Le μ → V d → i < n → j < n → SpecH Try.prog lf (.int .i64 i :: .int .i64 j :: lb) μ (J d) fun v μ' h' => v = .bool (lt d[i]! d[j]!) ∧ μ' = μ ∧ h' = J d
 swap : ∀ {μ : Mem} {d : Array α} {i j : Nat}, μ0.Le μ → V d → i < n → j < n → SpecH Try.prog sf (.int .i64 i :: .int .i64 j :: sb) μ (J d) fun v μ' h' => v = .tuple #[] ∧ μ' = μ ∧ h' = J (swp d i j)
section
variable {α : Type} [Inhabited α] {lf sf : FuncId} {lb sb : List Value} {n : Nat} {lt : α → α → Bool} {μ0 : Mem} {J : Array α → Mem} {V : Array α → Prop} {μ : Mem} {d : Array α}
theorem insertionSortF_spec (H : SortBy lf sf lb sb n lt μ0 J V) {a b : Nat} (hle : μ0.Le μ) (hV : V d) (ha : a ≤ b) (hb : b ≤ n) :
  SpecH Try.prog 146 [fdata lf sf lb sb, .int .i64 a, .int .i64 b] μ (J d) fun v μ' h' => v = .tuple #[] ∧ μ' = μ ∧ h' = J (insertionSort lt d a b) ∧ V (insertionSort lt d a b) := by
 have hn := H.max
 refine SpecH.mk [] Try.func146 (by kernel_rfl) ?_
 intro r1
 rw [insertionSort]
 generalize hD : insOuter lt a b (a + 1) d = D
 refine nEq (x := ((a + 1 : Nat) : Int)) (by rw [wrap64 (by omega) (by omega)]; omega) ?_
 refine lIn (fun p : Nat × Array α => a + 1 ≤ p.1 ∧ p.1 ≤ max b (a + 1) ∧ V p.2 ∧ insOuter lt a b p.1 p.2 = D)
  (fun (i, d) => ⟨[(1, .val (.int .i64 a)), (2, .val (.int .i64 b)), (3, .loc 0 r1 0), (6, .val (.int .i64 i))], fblk r1 lf sf lb sb, 1, μ, J d⟩) (fun p => b - p.1)
  (a + 1, d) ⟨by omega, by omega, hV, hD⟩ (fun (_, _) => ⟨rfl, rfl⟩) ⟨⟨rfl, rfl, rfl, rfl, trivial⟩, ⟨rfl, trivial⟩, rfl, rfl⟩ ?_
 rintro ⟨i, d1⟩ ⟨hi1, hi2, hs, hJ⟩
 dsimp only at hi1 hi2 hs hJ
 rw [insOuter] at hJ
 refine ifd (fun h => ?_) (fun h => ?_)
 ·rw [if_pos (by omega)] at hJ
  refine lIn (fun p : Nat × Array α => p.1 < n ∧ V p.2 ∧ insInner lt a p.1 p.2 = insInner lt a i d1)
   (fun (j, d) => ⟨[(1, .val (.int .i64 a)), (2, .val (.int .i64 b)), (3, .loc 0 r1 0), (6, .val (.int .i64 i)), (7, .val (.int .i64 j))], fblk r1 lf sf lb sb, 1, μ, J d⟩) (fun p => p.1)
   (i, d1) ⟨by omega, hs, rfl⟩ (fun (_, _) => ⟨rfl, rfl⟩) ⟨⟨rfl, rfl, rfl, rfl, rfl, trivial⟩, ⟨rfl, trivial⟩, rfl, rfl⟩ ?_
  rintro ⟨j, d2⟩ ⟨hj, hs2, hJ2⟩
  dsimp only at hj hs2 hJ2
  refine ifd (fun hja => ?_) (fun hja => ?_)
  ·obtain ⟨j, rfl⟩ : ∃ k, j = k + 1 := ⟨j - 1, by omega⟩
   rw [insInner] at hJ2
   refine nEq (x := ((j : Nat) : Int)) (by rw [wrap64 (by omega) (by omega)]; omega) ?_
   refine cOw (H.less hle hs2 (i := j + 1) (j := j) (by omega) (by omega)) fun v μ' h' hle' hap hR => ?_
   obtain ⟨rfl, e2, rfl⟩ := hR
   obtain rfl := e2.symm
   clear hle' hap
   have g : decide (j + 1 > a) = true := decide_eq_true (by omega)
   refine iIn (fun hl => ?_) (fun hl => ?_)
   ·rw [g, hl, Bool.and_self, if_pos rfl] at hJ2
    refine nEq (x := ((j : Nat) : Int)) (by rw [wrap64 (by omega) (by omega)]; omega) ?_
    refine cOw (H.swap hle hs2 (i := j + 1) (j := j) (by omega) (by omega)) fun v μ' h' hle' hap hR => ?_
    obtain ⟨rfl, e2, rfl⟩ := hR
    obtain rfl := e2.symm
    clear hle' hap
    refine nEq (x := ((j : Nat) : Int)) (by rw [wrap64 (by omega) (by omega)]; omega) ?_
    exact ⟨(j, swp d2 (j + 1) j), ⟨by dsimp only; omega, H.sw hs2 (by omega) (by omega), hJ2⟩, by dsimp only; omega, ⟨⟨rfl, rfl, rfl, rfl, rfl, trivial⟩, ⟨rfl, trivial⟩, rfl, rfl⟩⟩
   ·rw [hl, Bool.and_false, if_neg (by simp)] at hJ2
    exact num64 (by omega) (by omega) ⟨(i + 1, d2), ⟨by dsimp only; omega, by dsimp only; omega, hs2, by dsimp only; rw [hJ2]; exact hJ⟩, by dsimp only; omega, ⟨⟨rfl, rfl, rfl, rfl, trivial⟩, ⟨rfl, trivial⟩, rfl, rfl⟩⟩
  ·have hJ3 : insInner lt a j d2 = d2 := by
    cases j with
    | zero => rfl
    | succ j => rw [insInner, if_neg]; simp; omega
   rw [hJ3] at hJ2
   exact num64 (by omega) (by omega) ⟨(i + 1, d2), ⟨by dsimp only; omega, by dsimp only; omega, hs2, by dsimp only; rw [hJ2]; exact hJ⟩, by dsimp only; omega, ⟨⟨rfl, rfl, rfl, rfl, trivial⟩, ⟨rfl, trivial⟩, rfl, rfl⟩⟩
 ·rw [if_neg (by omega)] at hJ
  subst hJ
  exact rPl ⟨rfl, rfl, rfl, hs⟩
end
end Go.Vx
namespace Go.Vx
open Go.Proofs Classical
open Go.Sort
theorem parts_set {g : Mem} {r : Nat} {o : Obj} (h : g r = none) : Parts (g.set r o) (Mem.nil.set r o) g := fun b => by
 by_cases e : b = r
 ·subst e; exact .inl ⟨by rw [Mem.set_at, Mem.set_at], h⟩
 ·exact .inr ⟨by rw [Mem.set_ne e], by rw [Mem.set_ne e]; rfl⟩
section
variable {α : Type} {J : Array α → Mem} {μ : Mem} {d : Array α} {rs : Nat} {s : Int}
end
section
variable {α : Type} [Inhabited α] {lf sf : FuncId} {lb sb : List Value} {n : Nat} {lt : α → α → Bool} {μ0 : Mem} {J : Array α → Mem} {V : Array α → Prop} {μ : Mem} {d : Array α} {rs : Nat} {s : Int}
theorem SortBy.beside (H : SortBy lf sf lb sb n lt μ0 J V) (o : Obj) (h : ∀ d, V d → J d rs = none) : SortBy lf sf lb sb n lt μ0 (fun d => (J d).set rs o) V where
 max := H.max
 size := H.size
 sw := H.sw
 dom hV hV' hb := by
  simp only [Mem.set_get] at hb ⊢
  split at hb
  ·cases hb
  ·rename_i e; rw [if_neg e]; exact H.dom hV hV' hb
 less hle hV hi hj := (SpecH.frame (parts_set (h _ hV)).symm (H.less hle hV hi hj)).weaken fun v μ' h' _ _ ⟨g, ⟨e1, e2, e3⟩, p⟩ => ⟨e1, e2, by rw [e3] at p; exact p.eq (parts_set (h _ hV)).symm⟩
 swap hle hV hi hj := (SpecH.frame (parts_set (h _ hV)).symm (H.swap hle hV hi hj)).weaken fun v μ' h' _ _ ⟨g, ⟨e1, e2, e3⟩, p⟩ => ⟨e1, e2, by rw [e3] at p; exact p.eq (parts_set (h _ (H.sw hV hi hj))).symm⟩
end
end Go.Vx
namespace Go.Vx
open Go.Proofs Classical
open Go.Sort
open Go.Extern Go.Extern.Rtype Go.RowKit Go.Lib
section
variable {P : Program} {f : FuncId} {args : List Value} {μ h0 : Mem}
theorem SpecH.ext {R : Value → Mem → Mem → Prop} (h : ∀ w, Holds μ w → Holds h0 w → Apart μ h0 → ∃ v w' μ' h', (callFunc f args.toArray).run P w = .ok (.value v) w' ∧ R v μ' h' ∧ Step μ h0 w μ' h' w') : SpecH P f args μ h0 R :=
 ⟨trivial, fun w h1 h2 h3 => by
  have w_ := h w h1 h2 h3
  obtain ⟨v, w', μ', h', e, hr, hS⟩ := w_
  exact .inr ⟨v, w', e, v, μ', h', rfl, hr, hS⟩⟩
theorem Step.same {w : World} (h1 : Holds μ w) (h2 : Holds h0 w) (h3 : Apart μ h0) : Step μ h0 w μ h0 w :=
 ⟨Mem.Le.refl _, h1, h2, h3, fun _b h h' => absurd h h', fun _b h => .inr h, Nat.le_refl _, fun _ _ _ => rfl, rfl, rfl, rfl⟩
theorem Step.row {w : World} {r : Nat} {cs cs' : Array Value} {ty : TypeId} (h1 : Holds μ w) (h2 : Holds h0 w) (h3 : Apart μ h0) (hr : h0 r = some (.cells cs ty (0, 0))) : Step μ h0 w μ (h0.set r (.cells cs' ty (0, 0))) (w.setRow r cs') := by
 have hne : ∀ b, μ b ≠ none → b ≠ r := fun b hb e => by
  subst e; rw [h3 b hb] at hr; cases hr
 have hg : w.heap[r]? = some (.cells cs ty (0, 0)) := h2 _ _ hr
 refine ⟨Mem.Le.refl _, fun b o hb => ?_, fun b o hb => ?_, fun b hb => ?_, fun b h h' => absurd h h', fun b h => ?_, by simp, fun b _ hb => setRow_other w r b _ fun e => ?_, rfl, rfl, rfl⟩
 ·rw [setRow_other w r b _ (hne b (by simp [hb]))]; exact h1 b o hb
 ·rw [Mem.set_get] at hb
  split at hb
  ·rename_i e; subst e; cases hb; rw [setRow_heap w b _ _ ty (0, 0) hg]
  ·rename_i e; rw [setRow_other w r b _ e]; exact h2 b o hb
 ·rw [Mem.set_ne (hne b hb)]; exact h3 b hb
 ·by_cases e : b = r
  ·subst e; exact .inr (by rw [hr]; simp)
  ·rw [Mem.set_ne e] at h; exact .inr h
 ·subst e; rw [hr] at hb; cases hb
theorem Step.alloc {w : World} {o : Obj} (h1 : Holds μ w) (h2 : Holds h0 w) (h3 : Apart μ h0) : Step μ h0 w (μ.set w.heap.size o) h0 (w.alloc o) ∧ μ w.heap.size = none := by
 have hlt : ∀ b o, w.heap[b]? = some o → b < w.heap.size := fun b o h => (Array.getElem?_eq_some_iff.1 h).1
 have hm : μ w.heap.size = none := by
  cases e : μ w.heap.size with
  | none => rfl
  | some o => have := hlt _ _ (h1 _ _ e); omega
 have hh : h0 w.heap.size = none := by
  cases e : h0 w.heap.size with
  | none => rfl
  | some o => have := hlt _ _ (h2 _ _ e); omega
 have hk : ∀ b, b < w.heap.size → (w.alloc o).heap[b]? = w.heap[b]? := fun b hb => by
  show (w.heap.push o)[b]? = _
  rw [Array.getElem?_push, if_neg (by omega)]
 refine ⟨⟨fun b x hb => ?_, fun b x hb => ?_, fun b x hb => ?_, fun b hb => ?_, fun b h h' => ?_, fun b h => .inr h, by show w.heap.size ≤ (w.heap.push o).size; simp, fun b hb _ => hk b hb, rfl, rfl, rfl⟩, hm⟩
 ·rw [Mem.set_ne (fun e => by subst e; rw [hm] at hb; cases hb)]; exact hb
 ·rw [Mem.set_get] at hb
  split at hb
  ·rename_i e; subst e; cases hb; show (w.heap.push o)[w.heap.size]? = some o; simp
  ·rw [hk b (hlt _ _ (h1 _ _ hb))]; exact h1 _ _ hb
 ·rw [hk b (hlt _ _ (h2 _ _ hb))]; exact h2 _ _ hb
 ·rw [Mem.set_get] at hb
  split at hb
  ·rename_i e; subst e; exact hh
  ·exact h3 b hb
 ·rw [Mem.set_get] at h'
  split at h'
  ·rename_i e; subst e; exact .inl (Nat.le_refl _)
  ·exact absurd h h'
end
structure SlTy (t e : TypeId) (i ie : TypeInfo) (ke : Nat) : Prop where
 hi : Try.prog.info? t = some i
 hd : i.desc = .slice e
 pk : Try.prog.packed t = false
 hie : Try.prog.info? e = some ie
 hke : ∀ w, (Extern.Rtype.kind e).run Try.prog w = .ok ke w
 h9 : swapperK 2 ie ke = 9
theorem SlTy.nine {t e : TypeId} {i ie : TypeInfo} {ke : Nat} (T : SlTy t e i ie ke) {n : Nat} (h : 2 ≤ n) : swapperK n ie ke = 9 := by
 rw [← T.h9]
 unfold swapperK
 have h0 : (n == 0) = false := by simp; omega
 have h1 : (n == 1) = false := by simp; omega
 have h2 : ((2 : Nat) == 0) = false := rfl
 have h3 : ((2 : Nat) == 1) = false := rfl
 simp only [h0, h1, h2, h3]
section
variable {μ : Mem}
theorem valueOf_spec {t e : TypeId} {i ie : TypeInfo} {ke : Nat} (T : SlTy t e i ie ke) (p : Option Addr) (n c : Nat) : Spec Try.prog 113 [.iface t (.slice p n c)] μ fun v μ' => ∃ r, v = .agg #[typeHandle Try.prog t, .pointer (some ⟨r, 0, none⟩), .int .u64 151] ∧ μ' r = some (.cells #[.slice p n c] t (0, 0)) := by
 refine SpecH.ext fun w h1 h2 h3 => ?_
 have hv := run_valueOf_slice (P := Try.prog) t e i T.hi T.hd p n c w
 refine ⟨_, _, _, _, ?_, ⟨w.heap.size, rfl, Mem.set_at _ _ _⟩, (Step.alloc h1 h2 h3).1⟩
 rw [run_callFunc_extern Try.func113 (by kernel_rfl) (by kernel_rfl) (by kernel_rfl) (e := fun args => Extern.ReflectliteValue.unpack (args.getD 0 (.tuple #[]))) (by kernel_rfl),
  show Sem.run Try.prog ((fun args : Array Value => Extern.ReflectliteValue.unpack (args.getD 0 (.tuple #[]))) #[.iface t (.slice p n c)]) w = _ from hv]
 rfl
theorem valueLen_spec {t e : TypeId} {i ie : TypeInfo} {ke : Nat} (T : SlTy t e i ie ke) {p : Option Addr} {n c r : Nat} (hr : μ r = some (.cells #[.slice p n c] t (0, 0))) : Gives Try.prog 116 [.agg #[typeHandle Try.prog t, .pointer (some ⟨r, 0, none⟩), .int .u64 151]] μ (.int .i64 n) := by
 refine SpecH.ext fun w h1 h2 h3 => ?_
 have hc : w.cell? ⟨r, 0, none⟩ = some (.slice p n c) := by simp [World.cell?, h1 _ _ hr]
 have hl := run_valueLen_slice (P := Try.prog) t e i T.hi T.hd T.pk ⟨r, 0, none⟩ p n c w hc
 refine ⟨_, _, _, _, ?_, ⟨rfl, rfl⟩, Step.same h1 h2 h3⟩
 rw [run_callFunc_extern Try.func116 (by kernel_rfl) (by kernel_rfl) (by kernel_rfl) (e := Extern.ReflectliteValue.method (Extern.ReflectliteValue.valueError "reflectlite.Value.Len" 0) Extern.ReflectliteValue.len) (by kernel_rfl), hl]
 rfl
theorem swapper_spec {t e : TypeId} {i ie : TypeInfo} {ke : Nat} (T : SlTy t e i ie ke) (p : Option Addr) {n : Nat} (c : Nat) : ∃ (k : FuncId) (bs : List Value), (2 ≤ n → k = 145 ∧ bs = [.slice p n c, typeHandle Try.prog e]) ∧ Gives Try.prog 114 [.iface t (.slice p n c)] μ (.func (.func k) #[] bs.toArray) := by
 have go : ∀ (f : Nat) (bs : List Value), Try.prog.funcs.findIdx? (·.name == "internal/reflectlite" ++ ".Swapper$" ++ toString (swapperK n ie ke)) = some f → (if swapperK n ie ke ≤ 2 then (#[] : Array Value) else #[.slice p n c, typeHandle Try.prog e]) = bs.toArray →
   Gives Try.prog 114 [.iface t (.slice p n c)] μ (.func (.func f) #[] bs.toArray) := fun f bs hf hbs => by
  refine SpecH.ext fun w h1 h2 h3 => ?_
  have hs := run_swapper_slice (P := Try.prog) t e i ie T.hi T.hd T.hie ke T.hke p n c f hf w
  rw [hbs] at hs
  refine ⟨_, _, _, _, ?_, ⟨rfl, rfl⟩, Step.same h1 h2 h3⟩
  rw [run_callFunc_extern Try.func114 (by kernel_rfl) (by kernel_rfl) (by kernel_rfl) (e := Extern.ReflectliteSwapper.swapper "internal/reflectlite" (Extern.ReflectliteValue.valueError "Swapper")) (by kernel_rfl), hs]
  rfl
 by_cases h2 : 2 ≤ n
 ·refine ⟨145, [.slice p n c, typeHandle Try.prog e], fun _ => ⟨rfl, rfl⟩, go _ _ ?_ ?_⟩
  ·rw [T.nine h2]; kernel_rfl
  ·rw [T.nine h2]; rfl
 ·by_cases h0 : n = 0
  ·subst h0
   refine ⟨137, [], fun h => by omega, go _ _ ?_ ?_⟩
   ·have : swapperK 0 ie ke = 1 := rfl
    have e : Try.prog.funcs.findIdx? (·.name == "internal/reflectlite" ++ ".Swapper$" ++ toString (1 : Nat)) = some 137 := by kernel_rfl
    rw [this]; exact e
   ·rfl
  ·obtain rfl : n = 1 := by omega
   refine ⟨138, [], fun h => by omega, go _ _ ?_ ?_⟩
   ·have : swapperK 1 ie ke = 2 := rfl
    have e : Try.prog.funcs.findIdx? (·.name == "internal/reflectlite" ++ ".Swapper$" ++ toString (2 : Nat)) = some 138 := by kernel_rfl
    rw [this]; exact e
   ·rfl
end
end Go.Vx
namespace Go.Vx
open Go.Proofs Classical
open Go.Sort
open Go.Extern Go.Extern.Rtype Go.RowKit Go.Lib
def RowV (h0 : Mem) (r : Nat) (ty : TypeId) (rest : List Value) (d : Array Value) : Mem := h0.set r (.cells (List.toArray (d.toList.flatMap vcells ++ rest)) ty (0, 0))
def Els (es : Nat) (d : Array Value) : Prop := ∀ x ∈ d.toList, (vcells x).length = es ∧ ∀ u ∈ vcells x, u.oneCell' = true
theorem flat_put {es : Nat} : ∀ {l : List Value}, (∀ y ∈ l, (vcells y).length = es) → ∀ {i : Nat}, i < l.length → ∀ {y : Value}, (vcells y).length = es → ∀ rest : List Value,
  (l.flatMap vcells ++ rest).take (i * es) ++ vcells y ++ (l.flatMap vcells ++ rest).drop (i * es + es) = (l.set i y).flatMap vcells ++ rest
 | [], _, i, hi, _, _, _ => by simp at hi
 | z :: r, hl, 0, _, y, hy, rest => by
  have hz := hl z (by simp)
  simp only [Nat.zero_mul, List.take_zero, List.nil_append, Nat.zero_add, List.set_cons_zero, List.flatMap_cons, List.append_assoc]
  rw [← hz, List.drop_left]
 | z :: r, hl, i + 1, hi, y, hy, rest => by
  have hz := hl z (by simp)
  have ih := flat_put (l := r) (fun y h => hl y (List.mem_cons_of_mem _ h)) (i := i) (by simpa using hi) hy rest
  simp only [List.set_cons_succ, List.flatMap_cons, List.append_assoc] at ih ⊢
  have e1 : (i + 1) * es = (vcells z).length + i * es := by rw [hz, Nat.add_mul, Nat.one_mul, Nat.add_comm]
  rw [e1, List.take_length_add_append, Nat.add_assoc, List.drop_length_add_append, List.append_assoc, ih]
theorem arrV_at {d : Array Value} {k : Nat} (h : k < d.size) : d.toList[k]? = some d[k]! := by
 rw [Array.getElem?_toList, getElem!_pos d k h, Array.getElem?_eq_getElem h]
theorem arrV_mem {d : Array Value} {k : Nat} (h : k < d.size) : d[k]! ∈ d.toList := List.mem_of_getElem? (arrV_at h)
theorem Els.perm {es n : Nat} {d d' : Array Value} (hn : d.size = n) (h : Els es d) (p : PermIn 0 n d d') : Els es d' := fun x hx => by
 have w_ := List.mem_iff_getElem?.1 hx
 obtain ⟨i, hi⟩ := w_
 have hi2 : i < d'.size := by have := (List.getElem?_eq_some_iff.1 hi).1; simpa using this
 rw [arrV_at hi2] at hi
 cases hi
 exact permIn_all d d' 0 n (fun x => (vcells x).length = es ∧ ∀ u ∈ vcells x, u.oneCell' = true) (by omega) p (fun j _ hj => h _ (arrV_mem (by omega))) i (by omega) (by rw [p.1] at hi2; omega)
section
variable {P : Program} {μ h0 : Mem} {r : Nat} {ty : TypeId} {rest : List Value} {d : Array Value} {es : Nat}
theorem RowV.cell (hE : Els es d) {i c : Nat} {v : Value} (hi : i < d.size) (hv : (vcells d[i]!)[c]? = some v) : (RowV h0 r ty rest d).cell ⟨r, i * es + c, none⟩ = some v := by
 have h := flat_at (fun y hy => (hE y hy).1) (arrV_at hi) hv
 simp only [Mem.cell, RowV, Mem.set_at, Option.isSome_none]
 have h2 := (List.getElem?_eq_some_iff.1 h).1
 simp only [List.getElem?_toArray]
 rw [List.getElem?_append_left h2, h]
 rfl
theorem load_row {e : TypeId} {ti : TI} (hti : TIok P e ti) (w : World) (a : Addr) (x : Value) (hl : (vcells x).length = ti.size) (h : ∀ j v, (vcells x)[j]? = some v → w.cell? (a.add j) = some v) (h1 : ti.agg = false → ti.size = 1) (h2 : ∀ u ∈ vcells x, u.oneCell' = true) :
  ∃ y, (loadVar e a).run P w = .ok y w ∧ vcells y = vcells x := by
 have hr := run_loadVar_cells hti w a (vcells x) hl h h1
 refine ⟨_, hr, ?_⟩
 cases hg : ti.agg with
 | true => simp [vcells]
 | false =>
  rw [h1 hg] at hl
  match hc : vcells x, hl with
  | [u], _ =>
   have := h2 u (by rw [hc]; simp)
   simp only [Bool.false_eq_true, if_false, List.getD_cons_zero]
   cases u <;> first | rfl | (simp [Value.oneCell'] at this)
theorem swap9_spec {e : TypeId} {ti : TI} (hti : TIok Try.prog e ti) (h1 : ti.agg = false → ti.size = 1) (hE : Els ti.size d) {n cap i j : Nat} (hd : d.size = n) (hi : i < n) (hj : j < n) :
  SpecH Try.prog 145 [.int .i64 i, .int .i64 j, .slice (some ⟨r, 0, none⟩) n cap, typeHandle Try.prog e] μ (RowV h0 r ty rest d) fun v μ' h' => v = .tuple #[] ∧ μ' = μ ∧ h' = RowV h0 r ty rest (swp d i j) := by
 refine SpecH.ext fun w hm hh ha => ?_
 subst hd
 have hX := hE _ (arrV_mem hi)
 have hY := hE _ (arrV_mem hj)
 have hcell : ∀ k, k < d.size → ∀ c v, (vcells d[k]!)[c]? = some v → w.cell? ((⟨r, k * ti.size, none⟩ : Addr).add c) = some v := fun k hk c v hv => by
  rw [Addr.add_lit']; exact hh.cell (RowV.cell hE hk hv)
 have w_ := load_row hti w ⟨r, i * ti.size, none⟩ d[i]! hX.1 (hcell i hi) h1 hX.2
 obtain ⟨X, l1, eX⟩ := w_
 have w_ := load_row hti w ⟨r, j * ti.size, none⟩ d[j]! hY.1 (hcell j hj) h1 hY.2
 obtain ⟨Y, l2, eY⟩ := w_
 have hb : ∀ k, k < d.size → k * ti.size + ti.size ≤ d.size * ti.size := fun k hk => by
  have := Nat.mul_le_mul_right ti.size (show k + 1 ≤ d.size from hk); rwa [Nat.add_mul, Nat.one_mul] at this
 have hlen : (d.toList.flatMap vcells).length = d.size * ti.size := by rw [flat_len _ fun y hy => (hE y hy).1]; simp
 have hg : w.heap[r]? = some (.cells (List.toArray (d.toList.flatMap vcells ++ rest)) ty (0, 0)) := hh _ _ (Mem.set_at _ _ _)
 have s1 := run_storeVar hti w r (i * ti.size) _ ty hg Y (by rw [eY]; exact hY.1) (by have := hb i hi; simp [hlen]; omega) (by rw [eY]; exact hY.2)
 have e1 := flat_put (fun y hy => (hE y hy).1) (l := d.toList) (i := i) (by simpa using hi) (y := d[j]!) hY.1 rest
 rw [eY, hY.1] at s1
 simp only [e1] at s1
 have hE2 : ∀ y ∈ d.toList.set i d[j]!, (vcells y).length = ti.size := fun y hy => by
  rcases List.mem_or_eq_of_mem_set hy with h | h
  ·exact (hE y h).1
  ·subst h; exact hY.1
 have hlen2 : ((d.toList.set i d[j]!).flatMap vcells).length = d.size * ti.size := by rw [flat_len _ hE2]; simp
 have hg2 : (w.setRow r (List.toArray ((d.toList.set i d[j]!).flatMap vcells ++ rest))).heap[r]? = some (.cells (List.toArray ((d.toList.set i d[j]!).flatMap vcells ++ rest)) ty (0, 0)) := setRow_heap w r _ _ ty (0, 0) hg
 have s2 := run_storeVar hti _ r (j * ti.size) _ ty hg2 X (by rw [eX]; exact hX.1) (by have := hb j hj; simp [hlen2]; omega) (by rw [eX]; exact hX.2)
 have e2 := flat_put hE2 (i := j) (by simpa using hj) (y := d[i]!) hX.1 rest
 rw [eX, hX.1] at s2
 simp only [e2] at s2
 have hsw : (d.toList.set i d[j]!).set j d[i]! = (swp d i j).toList := by rw [swp, Array.toList_setIfInBounds, Array.toList_setIfInBounds]
 rw [hsw] at s2
 have hss : ∀ z z', (w.setRow r z).setRow r z' = w.setRow r z' := fun z z' => setRow_setRow w r z z'
 have hS := Step.row (cs' := List.toArray ((swp d i j).toList.flatMap vcells ++ rest)) hm hh ha (Mem.set_at _ _ _)
 refine ⟨.tuple #[], w.setRow r (List.toArray ((swp d i j).toList.flatMap vcells ++ rest)), μ, RowV h0 r ty rest (swp d i j), ?_, ⟨rfl, rfl, rfl⟩, ?_⟩
 rotate_left
 ·rw [RowV, Mem.set_set] at hS; exact hS
 rw [run_callFunc_extern Try.func145 (by kernel_rfl) (by kernel_rfl) (by kernel_rfl) (e := Extern.ReflectliteSwapper.swap false) (by kernel_rfl)]
 show (Sem.run _ (ReflectliteSwapper.swap false #[.int .i64 i, .int .i64 j, .slice (some ⟨r, 0, none⟩) d.size cap, typeHandle Try.prog e]) w).andThen _ = _
 have i0 : ¬ ((i : Int) < 0) := by omega
 have i1 : ¬ ((i : Int) ≥ d.size) := by omega
 have j0 : ¬ ((j : Int) < 0) := by omega
 have j1 : ¬ ((j : Int) ≥ d.size) := by omega
 rw [rl_swap]
 simp [i0, i1, j0, j1, ofHandle, handleType, typeHandle, ReflectliteSwapper.exchange, hti.run_sizeOf, Addr.add_lit', l1, l2, s1, s2, hss, Result.andThen]
end
section
variable {μ h0 : Mem} {lf sf : FuncId} {lb sb : List Value} {n : Nat}
theorem insertionSortF_tiny (hn : n ≤ 1) : SpecH Try.prog 146 [fdata lf sf lb sb, .int .i64 0, .int .i64 n] μ h0 fun v μ' h' => v = .tuple #[] ∧ μ' = μ ∧ h' = h0 := by
 refine SpecH.mk [] Try.func146 (by kernel_rfl) ?_
 intro r1
 refine nEq (x := ((1 : Nat) : Int)) (by decide) ?_
 refine lIn (fun i : Nat => i = 1)
  (fun i => ⟨[(1, .val (.int .i64 0)), (2, .val (.int .i64 n)), (3, .loc 0 r1 0), (6, .val (.int .i64 i))], fblk r1 lf sf lb sb, 1, μ, h0⟩) (fun i => n - i)
  1 rfl (fun _ => ⟨rfl, rfl⟩) ⟨⟨rfl, rfl, rfl, rfl, trivial⟩, ⟨rfl, trivial⟩, rfl, rfl⟩ ?_
 rintro i rfl
 refine ifd (fun h => by omega) (fun h => ?_)
 exact rPl ⟨rfl, rfl, rfl⟩
end
section
variable {α : Type} [Inhabited α] {enc : α → Value} {μ h0 : Mem} {r : Nat} {ty t e : TypeId} {i ie : TypeInfo} {ke : Nat} {ti : TI} {rest : List Value} {d0 : Array α} {n cap : Nat} {lf : FuncId} {lb : List Value} {lt : α → α → Bool}
theorem map_get {d : Array α} {k : Nat} (h : k < d.size) : (d.map enc)[k]! = enc d[k]! := by
 rw [getElem!_pos _ k (by simpa using h), getElem!_pos d k h, Array.getElem_map]
theorem swp_map {d : Array α} {a b : Nat} (ha : a < d.size) (hb : b < d.size) : (swp d a b).map enc = swp (d.map enc) a b := by
 unfold swp
 rw [map_get hb, map_get ha]
 simp
theorem permIn_map {d d' : Array α} (hn : d.size = n) (p : PermIn 0 n d d') : PermIn 0 n (d.map enc) (d'.map enc) := by
 obtain ⟨h1, h2, h3⟩ := p
 refine ⟨by simp [h1], fun k hk => ?_, ?_⟩
 ·have hk2 : n ≤ k := by omega
  rw [getElem!_neg _ k (by simp; omega), getElem!_neg _ k (by simp; omega)]
 ·have e1 : d'.extract 0 n = d' := by rw [← hn, ← h1]; exact Array.extract_size
  have e2 : d.extract 0 n = d := by rw [← hn]; exact Array.extract_size
  have e3 : (d'.map enc).extract 0 n = d'.map enc := by rw [← hn, ← h1, show d'.size = (d'.map enc).size by simp]; exact Array.extract_size
  have e4 : (d.map enc).extract 0 n = d.map enc := by rw [← hn, show d.size = (d.map enc).size by simp]; exact Array.extract_size
  rw [e1, e2] at h3
  rw [e3, e4]
  simpa using h3.map enc
theorem permIn_list {d d' : Array α} (hn : d.size = n) (p : PermIn 0 n d d') : d'.toList.Perm d.toList := by
 obtain ⟨h1, h2, h3⟩ := p
 have e1 : d'.extract 0 n = d' := by rw [← hn, ← h1]; exact Array.extract_size
 have e2 : d.extract 0 n = d := by rw [← hn]; exact Array.extract_size
 rwa [e1, e2] at h3
theorem SortBy.row (hti : TIok Try.prog e ti) (h1 : ti.agg = false → ti.size = 1) (hE : Els ti.size (d0.map enc)) (hn : d0.size = n) (hmax : n ≤ 1000000000000)
  (less : ∀ {μ' : Mem} {d : Array α} {i j : Nat}, μ.Le μ' → PermIn 0 n d0 d → i < n → j < n → SpecH Try.prog lf (.int .i64 i :: .int .i64 j :: lb) μ' (RowV h0 r ty rest (d.map enc)) fun v μ'' h' => v = .bool (lt d[i]! d[j]!) ∧ μ'' = μ' ∧ h' = RowV h0 r ty rest (d.map enc)) :
  SortBy lf 145 lb [.slice (some ⟨r, 0, none⟩) n cap, typeHandle Try.prog e] n lt μ (fun d => RowV h0 r ty rest (d.map enc)) (PermIn 0 n d0) where
 max := hmax
 size hV := hV.1.trans hn
 sw hV hi hj := permIn_trans _ _ _ _ _ hV (swp_permIn _ _ _ _ _ (Nat.zero_le _) hi (Nat.zero_le _) hj (by rw [hV.1, hn]; exact Nat.le_refl _))
 dom {d d' b} _ _ hb := by
  simp only [RowV, Mem.set_get] at hb ⊢
  split at hb
  ·cases hb
  ·rename_i e; rw [if_neg e]; exact hb
 less hle hV hi hj := less hle hV hi hj
 swap {μ d i j} hle hV hi hj := by
  have hs : d.size = n := hV.1.trans hn
  have := swap9_spec (μ := μ) (h0 := h0) (r := r) (ty := ty) (rest := rest) (cap := cap) hti h1 (d := d.map enc) (hE.perm (by simp [hn]) (permIn_map hn hV)) (by simpa using hs) hi hj
  rwa [← swp_map (by omega) (by omega)] at this
end
section
variable {μ h0 : Mem} {r : Nat} {ty : TypeId} {rest : List Value} {es : Nat}
theorem idxV {n : Nat} {i : Int} {K : Addr → List Value → Prop} {K' : Addr → Prop} (k : Nat) (e : i = k) (hk : k < n) (h : K' ⟨r, k * es, none⟩) : elemVC μ (some ⟨r, 0, none⟩) n es i K K' := by
 subst e
 refine ptr_intro ⟨r, 0, none⟩ rfl (by omega) (by omega) ?_
 have : (⟨r, 0, none⟩ : Addr).add ((k : Int).toNat * es) = ⟨r, k * es, none⟩ := by rw [Addr.add_lit']; simp
 rw [this]; exact h
end
end Go.Vx
namespace Go.Vx
open Go.Proofs Classical
open Go.Sort
structure Prs {X : Type} (es : Nat) (f : X → D) (ps : List (X × Value)) (g : Mem) : Prop where
 own : OwnRows es (ps.map fun p => f p.1) (ps.map Prod.snd) g
 size : ∀ p ∈ ps, (vcells p.2).length = es ∧ ∀ u ∈ vcells p.2, u.oneCell' = true
section
variable {X : Type} {es : Nat} {f : X → D} {g : Mem}
theorem Prs.uncons {p : X × Value} {ps : List (X × Value)} (h : Prs es f (p :: ps) g) : ∃ g1 g2, Parts g g1 g2 ∧ Own (f p.1) g1 (vcells p.2) ∧ (f p.1).n = es ∧ Prs es f ps g2 := by
 obtain ⟨⟨ho, hs, hl⟩, hz⟩ := h
 simp only [List.map_cons, List.flatMap_cons] at ho
 obtain ⟨c1, c2, g1, g2, e, hp, h1, h2⟩ := ho
 have hn : (f p.1).n = es := hs _ (by simp)
 have hz0 := (hz p (by simp)).1
 have := List.append_inj e (by rw [h1.len, hn, hz0])
 obtain ⟨rfl, rfl⟩ := this
 exact ⟨g1, g2, hp, h1, hn, ⟨h2, fun x hx => hs x (by simp only [List.map_cons]; exact List.mem_cons_of_mem _ hx), by simp⟩, fun q hq => hz q (List.mem_cons_of_mem _ hq)⟩
theorem Prs.cons {p : X × Value} {ps : List (X × Value)} {g1 g2 : Mem} (hp : Parts g g1 g2) (h1 : Own (f p.1) g1 (vcells p.2)) (hn : (f p.1).n = es) (hz : (vcells p.2).length = es ∧ ∀ u ∈ vcells p.2, u.oneCell' = true) (h : Prs es f ps g2) : Prs es f (p :: ps) g := by
 refine ⟨⟨?_, ?_, by simp⟩, ?_⟩
 ·simp only [List.map_cons, List.flatMap_cons]
  exact OwnS.cons hp h1 h.own.own
 ·intro x hx
  simp only [List.map_cons, List.mem_cons] at hx
  rcases hx with rfl | hx
  ·exact hn
  ·exact h.own.size x hx
 ·intro q hq
  rcases List.mem_cons.1 hq with rfl | hq
  ·exact hz
  ·exact h.size q hq
theorem Prs.perm {ps ps' : List (X × Value)} (h : ps.Perm ps') : ∀ {g : Mem}, Prs es f ps g → Prs es f ps' g := by
 induction h with
 | nil => exact fun h => h
 | cons p _ ih =>
  intro g h
  obtain ⟨g1, g2, hp, h1, hn, h2⟩ := h.uncons
  exact Prs.cons hp h1 hn (h.size _ (by simp)) (ih h2)
 | swap p q l =>
  intro g h
  obtain ⟨g1, k, hp, h1, hn, h2⟩ := h.uncons
  obtain ⟨g2, g3, hq, h3, hn2, h4⟩ := h2.uncons
  have w_ := Parts.assoc hp hq.symm
  obtain ⟨m, hm1, hm2⟩ := w_
  exact Prs.cons hm2.symm h3 hn2 (h.size _ (by simp)) (Prs.cons hm1 h1 hn (h.size _ (by simp)) h4)
 | trans _ _ ih1 ih2 => exact fun h => ih2 (ih1 h)
theorem Prs.at : ∀ {ps : List (X × Value)} {g : Mem}, Prs es f ps g → ∀ p ∈ ps, ∃ g' : Mem, g'.Le g ∧ Own (f p.1) g' (vcells p.2)
 | [], _, _, p, hp => by simp at hp
 | q :: ps, g, h, p, hp => by
  obtain ⟨g1, g2, hpp, h1, _, h2⟩ := h.uncons
  rcases List.mem_cons.1 hp with rfl | hp
  ·exact ⟨g1, hpp.left, h1⟩
  ·have w_ := Prs.at h2 p hp
   obtain ⟨g', h3, h4⟩ := w_
   exact ⟨g', h3.trans hpp.right, h4⟩
theorem Prs.els {d : Array (X × Value)} (h : Prs es f d.toList g) : Els es (d.map Prod.snd) := fun x hx => by
 simp only [Array.toList_map, List.mem_map] at hx
 obtain ⟨p, hp, rfl⟩ := hx
 exact h.size p hp
theorem Prs.zip : ∀ {xs : List X} {ys : List Value} {g : Mem}, OwnRows es (xs.map f) ys g → (∀ y ∈ ys, (vcells y).length = es ∧ ∀ u ∈ vcells y, u.oneCell' = true) → Prs es f (xs.zip ys) g ∧ (xs.zip ys).map Prod.fst = xs ∧ (xs.zip ys).map Prod.snd = ys := fun {xs ys g} h hz => by
 have hl : xs.length = ys.length := by simpa using h.len
 have e1 : (xs.zip ys).map Prod.fst = xs := by rw [List.map_fst_zip (by omega)]
 have e2 : (xs.zip ys).map Prod.snd = ys := by rw [List.map_snd_zip (by omega)]
 refine ⟨⟨?_, fun p hp => hz p.2 ?_⟩, e1, e2⟩
 ·have e3 : (xs.zip ys).map (fun p => f p.1) = xs.map f := by
   conv => rhs; rw [← e1, List.map_map]
   rfl
  rw [e2, e3]; exact h
 ·rw [← e2]; exact List.mem_map.2 ⟨p, hp, rfl⟩
end
section
variable {X : Type} {es : Nat} {f : X → D}
theorem Prs.nil : Prs es f [] Mem.nil := ⟨OwnRows.nil es, fun p hp => by simp at hp⟩
theorem Prs.sub {ps ps' : List (X × Value)} (h : ps'.Sublist ps) : ∀ {g : Mem}, Prs es f ps g → ∃ g' : Mem, g'.Le g ∧ Prs es f ps' g' := by
 induction h with
 | slnil => exact fun {g} h => ⟨g, Mem.Le.refl _, h⟩
 | cons p _ ih =>
  intro g h
  obtain ⟨g1, g2, hp, h1, hn, h2⟩ := h.uncons
  obtain ⟨g', h3, h4⟩ := ih h2
  exact ⟨g', h3.trans hp.right, h4⟩
 | cons_cons p _ ih =>
  intro g h
  obtain ⟨g1, g2, hp, h1, hn, h2⟩ := h.uncons
  obtain ⟨g', h3, h4⟩ := ih h2
  have ha : Apart g1 g' := fun b hb => by
   have := hp.apart b hb
   cases e : g' b with
   | none => rfl
   | some o => rw [h3 b o e] at this; cases this
  exact ⟨g1.join g', join_le hp.left (h3.trans hp.right), Prs.cons (Parts.join ha) h1 hn (h.size _ (by simp)) h4⟩
end
end Go.Vx
namespace Go.Vx
open Go.Proofs Classical
open Go.Sort
noncomputable instance : Inhabited B := ⟨⟨0, .nil⟩⟩
section
variable {μ h0 g : Mem} {r : Nat} {ty : TypeId} {rest : List Value}
end
end Go.Vx
namespace Go.Vx
open Go.Proofs Classical
open Go.Sort
def AscB (l : List B) : Prop := l.Pairwise fun a b => a.var < b.var
theorem Srt.asc {bs : List B} (h : Srt bs) : AscB bs := by
 rw [AscB, List.pairwise_iff_getElem]
 intro i j hi hj hij
 exact h i j _ _ hij (by simp) (by simp)
theorem AscB.srt {bs : List B} (h : AscB bs) : Srt bs := fun i j b c hij hb hc => by
 rw [AscB, List.pairwise_iff_getElem] at h
 have w_ := List.getElem?_eq_some_iff.1 hb
 obtain ⟨hi, rfl⟩ := w_
 have w_ := List.getElem?_eq_some_iff.1 hc
 obtain ⟨hj, rfl⟩ := w_
 exact h i j hi hj hij
theorem AscB.uniq {a b : B} {l : List B} (h : AscB l) (ha : a ∈ l) (hb : b ∈ l) (e : a.var = b.var) : a = b := by
 have w_ := List.mem_iff_getElem?.1 ha
 obtain ⟨i, hi⟩ := w_
 have w_ := List.mem_iff_getElem?.1 hb
 obtain ⟨j, hj⟩ := w_
 rcases Nat.lt_trichotomy i j with h1 | h1 | h1
 ·have := h.srt i j _ _ h1 hi hj; omega
 ·subst h1; rw [hi] at hj; cases hj; rfl
 ·have := h.srt j i _ _ h1 hj hi; omega
theorem AscB.nodup {l : List B} (h : AscB l) : (l.map B.var).Nodup := by
 rw [List.Nodup, List.pairwise_map]
 exact h.imp fun h => by omega
section
variable {μ : Mem}
end
end Go.Vx
namespace Go.Vx
open Go.Proofs Classical
def GoodB (b : B) : Prop := b.to.good ∧ 0 ≤ b.var ∧ b.var ≤ 100000
theorem Vals.good {bs : List B} (h : Vals bs) : ∀ b ∈ bs, GoodB b := fun b hb => ⟨(h.tok b hb).1, h.var b hb⟩
theorem InsPos.asc {bs : List B} {b : B} {k : Nat} (h : AscB bs) (hk : InsPos bs b.var k) (hn : b.var ∉ bs.map B.var) : AscB (insAt bs b k) := by
 obtain ⟨hk0, hk1, hk2⟩ := hk
 unfold insAt AscB
 have h1 : ∀ a ∈ bs.take k, a.var < b.var := fun a ha => by
  have w_ := List.mem_iff_getElem?.1 ha
  obtain ⟨i, hi⟩ := w_
  have hik : i < k := by
   have := (List.getElem?_eq_some_iff.1 hi).1
   rw [List.length_take] at this; omega
  rw [List.getElem?_take_of_lt hik] at hi
  have hne : a.var ≠ b.var := fun e => hn (by rw [← e]; exact List.mem_map.2 ⟨a, mAt hi, rfl⟩)
  have w_ := aSo (l := bs) (i := k - 1) (by omega)
  obtain ⟨c, hc⟩ := w_
  have h2 := hk1 c hc (by omega)
  rcases Nat.lt_or_ge i (k - 1) with h3 | h3
  ·have := h.srt i (k - 1) a c h3 hi hc; omega
  ·obtain rfl : i = k - 1 := by omega
   rw [hi] at hc; cases hc; omega
 have h2 : ∀ a ∈ bs.drop k, b.var < a.var := fun a ha => by
  have w_ := List.mem_iff_getElem?.1 ha
  obtain ⟨i, hi⟩ := w_
  rw [List.getElem?_drop] at hi
  exact hk2 (k + i) a (by omega) hi
 rw [List.pairwise_append, List.pairwise_append]
 refine ⟨h.sublist (List.take_sublist _ _), ⟨List.pairwise_singleton _ _, h.sublist (List.drop_sublist _ _), fun a ha c hc => ?_⟩, fun a ha c hc => ?_⟩
 ·rw [List.mem_singleton] at ha; subst ha; exact h2 c hc
 ·rcases List.mem_append.1 hc with hc | hc
  ·rw [List.mem_singleton] at hc; subst hc; exact h1 a ha
  ·have := h1 a ha; have := h2 c hc; omega
section
variable {μ : Mem}
set_option maxHeartbeats 4000000 in
end
end Go.Vx
namespace Go.Vx
open Go.Proofs Classical
open Go.Sort
def kokAt (l : List VK) (i : Nat) (k : VK) : Prop := (0 ≤ k.var ∧ k.var ≤ 100000) ∧ (k.kind = 2 ∨ k.kind = 3) ∧ ∀ j c, j + 1 = i → l[j]? = some c → c.var < k.var
def kindsOk (l : List VK) : Prop := ∀ i k, l[i]? = some k → kokAt l i k
def AscK (l : List VK) : Prop := l.Pairwise fun a b => a.var < b.var
theorem AscK.at {l : List VK} (h : AscK l) : ∀ (i j : Nat) b c, i < j → l[i]? = some b → l[j]? = some c → b.var < c.var := fun i j b c hij hb hc => by
 rw [AscK, List.pairwise_iff_getElem] at h
 have w_ := List.getElem?_eq_some_iff.1 hb
 obtain ⟨hi, rfl⟩ := w_
 have w_ := List.getElem?_eq_some_iff.1 hc
 obtain ⟨hj, rfl⟩ := w_
 exact h i j hi hj hij
theorem AscK.of_at {l : List VK} (h : ∀ (i j : Nat) b c, i < j → l[i]? = some b → l[j]? = some c → b.var < c.var) : AscK l := by
 rw [AscK, List.pairwise_iff_getElem]
 intro i j hi hj hij
 exact h i j _ _ hij (by simp) (by simp)
theorem kindsOk.asc {l : List VK} (h : kindsOk l) : AscK l := AscK.of_at fun i j b c hij hb hc => by
 induction j generalizing c with
 | zero => omega
 | succ j ih =>
  have hj : j < l.length := by have := (List.getElem?_eq_some_iff.1 hc).1; omega
  have w_ := aSo hj
  obtain ⟨d, hd⟩ := w_
  have h1 := (h (j + 1) c hc).2.2 j d rfl hd
  rcases Nat.lt_or_ge i j with h2 | h2
  ·have := ih d h2 hd; omega
  ·obtain rfl : i = j := by omega
   rw [hb] at hd; cases hd; exact h1
theorem AscK.uniq {a b : VK} {l : List VK} (h : AscK l) (ha : a ∈ l) (hb : b ∈ l) (e : a.var = b.var) : a = b := by
 have w_ := List.mem_iff_getElem?.1 ha
 obtain ⟨i, hi⟩ := w_
 have w_ := List.mem_iff_getElem?.1 hb
 obtain ⟨j, hj⟩ := w_
 rcases Nat.lt_trichotomy i j with h1 | h1 | h1
 ·have := h.at i j _ _ h1 hi hj; omega
 ·subst h1; rw [hi] at hj; cases hj; rfl
 ·have := h.at j i _ _ h1 hj hi; omega
theorem AscK.nodup {l : List VK} (h : AscK l) : (l.map VK.var).Nodup := by
 rw [List.Nodup, List.pairwise_map]
 exact h.imp fun h => by omega
section
variable {μ : Mem}
end
end Go.Vx
namespace Go.Vx
open Go.Proofs Classical
open Go.Sort
theorem AscK.ins {l : List VK} {y : VK} {i : Nat} (h : AscK l) (hi : i ≤ l.length) (h1 : ∀ j c, j < i → l[j]? = some c → c.var < y.var) (h2 : ∀ j c, i ≤ j → l[j]? = some c → y.var < c.var) : AscK (insAt l y i) := by
 have g1 : ∀ a ∈ l.take i, a.var < y.var := fun a ha => by
  have w_ := List.mem_iff_getElem?.1 ha
  obtain ⟨j, hj⟩ := w_
  have hji : j < i := by
   have := (List.getElem?_eq_some_iff.1 hj).1
   rw [List.length_take] at this; omega
  rw [List.getElem?_take_of_lt hji] at hj
  exact h1 j a hji hj
 have g2 : ∀ a ∈ l.drop i, y.var < a.var := fun a ha => by
  have w_ := List.mem_iff_getElem?.1 ha
  obtain ⟨j, hj⟩ := w_
  rw [List.getElem?_drop] at hj
  exact h2 (i + j) a (by omega) hj
 unfold insAt AscK
 rw [List.pairwise_append, List.pairwise_append]
 refine ⟨h.sublist (List.take_sublist _ _), ⟨List.pairwise_singleton _ _, h.sublist (List.drop_sublist _ _), fun a ha c hc => ?_⟩, fun a ha c hc => ?_⟩
 ·rw [List.mem_singleton] at ha; subst ha; exact g2 c hc
 ·rcases List.mem_append.1 hc with hc | hc
  ·rw [List.mem_singleton] at hc; subst hc; exact g1 a ha
  ·have := g1 a ha; have := g2 c hc; omega
section
variable {μ : Mem}
end
end Go.Vx
namespace Go.Vx
open Go.Proofs Classical
open Go.Sort
def VK.v (k : VK) : Value := .agg #[.int .i64 k.var, .int .i64 k.kind]
noncomputable instance : Inhabited VK := ⟨⟨0, 0⟩⟩
section
variable {μ : Mem}
end
section
variable {μ h0 : Mem} {r : Nat} {ty : TypeId} {rest : List Value}
end
section
variable {μ : Mem}
end
end Go.Vx
namespace Go.Vx
open Go.Proofs Classical
open Go.Sort
section
variable {α : Type} [Inhabited α] {lf sf : FuncId} {lb sb : List Value} {n : Nat} {lt : α → α → Bool} {μ0 : Mem} {J : Array α → Mem} {V : Array α → Prop} {μ : Mem} {d : Array α}
theorem swapRangeF_spec (H : SortBy lf sf lb sb n lt μ0 J V) {a b k : Nat} (hle : μ0.Le μ) (hV : V d) (ha : a + k ≤ b) (hb : b + k ≤ n) :
  SpecH Try.prog 173 [fdata lf sf lb sb, .int .i64 a, .int .i64 b, .int .i64 k] μ (J d) fun v μ' h' => v = .tuple #[] ∧ μ' = μ ∧ ∃ d', Sw a b k d d' ∧ PermIn a (b + k) d d' ∧ h' = J d' ∧ V d' := by
 have hn := H.max
 refine SpecH.mk [] Try.func173 (by kernel_rfl) ?_
 intro r1
 have hs0 := H.size hV
 refine lIn (fun p : Nat × Array α => p.1 ≤ k ∧ V p.2 ∧ Sw a b p.1 d p.2 ∧ PermIn a (b + k) d p.2)
  (fun (i, c) => ⟨[(1, .val (.int .i64 a)), (2, .val (.int .i64 b)), (3, .val (.int .i64 k)), (4, .loc 0 r1 0), (8, .val (.int .i64 i))], fblk r1 lf sf lb sb, 1, μ, J c⟩) (fun p => k - p.1)
  (0, d) ⟨Nat.zero_le _, hV, Sw.nil _ _ _, permIn_refl _ _ _⟩ (fun (_, _) => ⟨rfl, rfl⟩) ⟨⟨rfl, rfl, rfl, rfl, rfl, trivial⟩, ⟨rfl, trivial⟩, rfl, rfl⟩ ?_
 rintro ⟨i, c⟩ ⟨hi, hs, hsw, hp⟩
 dsimp only at hi hs hsw hp
 refine ifd (fun h => ?_) (fun h => ?_)
 ·refine nEq (x := ((a + i : Nat) : Int)) (by rw [wrap64 (by omega) (by omega)]; omega) ?_
  refine nEq (x := ((b + i : Nat) : Int)) (by rw [wrap64 (by omega) (by omega)]; omega) ?_
  refine cOw (H.swap hle hs (i := a + i) (j := b + i) (by omega) (by omega)) fun v μ' h' hle' hap hR => ?_
  obtain ⟨rfl, e2, rfl⟩ := hR
  obtain rfl := e2.symm
  clear hle' hap
  refine nEq (x := ((i + 1 : Nat) : Int)) (by rw [wrap64 (by omega) (by omega)]; omega) ?_
  exact ⟨(i + 1, swp c (a + i) (b + i)), ⟨by dsimp only; omega, H.sw hs (by omega) (by omega), hsw.step (by omega) (by omega), permIn_trans _ _ _ _ _ hp (swp_permIn _ _ _ _ _ (by omega) (by omega) (by omega) (by omega) (by rw [H.size hs]; exact hb))⟩, by dsimp only; omega, ⟨⟨rfl, rfl, rfl, rfl, rfl, trivial⟩, ⟨rfl, trivial⟩, rfl, rfl⟩⟩
 ·obtain rfl : i = k := by omega
  exact rPl ⟨rfl, rfl, c, hsw, hp, rfl, hs⟩
theorem rotateF_spec (H : SortBy lf sf lb sb n lt μ0 J V) {a m b : Nat} (hle : μ0.Le μ) (hV : V d) (ha : a < m) (hm : m < b) (hb : b ≤ n) :
  SpecH Try.prog 166 [fdata lf sf lb sb, .int .i64 a, .int .i64 m, .int .i64 b] μ (J d) fun v μ' h' => v = .tuple #[] ∧ μ' = μ ∧ ∃ d', Rot a m b d d' ∧ PermIn a b d d' ∧ h' = J d' ∧ V d' := by
 have hn := H.max
 refine SpecH.mk [] Try.func166 (by kernel_rfl) ?_
 intro r1
 have hs0 := H.size hV
 refine nEq (x := ((m - a : Nat) : Int)) (by rw [wrap64 (by omega) (by omega)]; omega) ?_
 refine nEq (x := ((b - m : Nat) : Int)) (by rw [wrap64 (by omega) (by omega)]; omega) ?_
 refine lIn (fun p : Nat × Nat × Array α => 1 ≤ p.1 ∧ p.1 ≤ m - a ∧ 1 ≤ p.2.1 ∧ p.2.1 ≤ b - m ∧ V p.2.2 ∧ PermIn a b d p.2.2 ∧ ∀ R, Rot (m - p.1) m (m + p.2.1) p.2.2 R → Rot a m b d R)
  (fun (i, j, c) => ⟨[(2, .val (.int .i64 m)), (4, .loc 0 r1 0), (8, .val (.int .i64 i)), (9, .val (.int .i64 j))], fblk r1 lf sf lb sb, 1, μ, J c⟩) (fun p => p.1 + p.2.1)
  (m - a, b - m, d) ⟨by dsimp only; omega, Nat.le_refl _, by dsimp only; omega, Nat.le_refl _, hV, permIn_refl _ _ _, fun R hR => by
   dsimp only at hR
   rwa [show m - (m - a) = a by omega, show m + (b - m) = b by omega] at hR⟩ (fun (_, _, _) => ⟨rfl, rfl⟩) ⟨⟨rfl, rfl, rfl, rfl, trivial⟩, ⟨rfl, trivial⟩, rfl, rfl⟩ ?_
 rintro ⟨i, j, c⟩ ⟨hi1, hi2, hj1, hj2, hs, hp, hR⟩
 dsimp only at hi1 hi2 hj1 hj2 hs hp hR
 refine ifnd (fun h => ?_) (fun h => ?_)
 ·refine ifd (fun h2 => ?_) (fun h2 => ?_)
  ·refine nEq (x := ((m - i : Nat) : Int)) (by rw [wrap64 (by omega) (by omega)]; omega) ?_
   refine cOw (swapRangeF_spec H hle hs (a := m - i) (b := m) (k := j) (by omega) (by omega)) fun v μ' h' hle' hap hR => ?_
   obtain ⟨rfl, e2, d2, hsw, hp2, rfl, hV2⟩ := hR
   obtain rfl := e2.symm
   clear hle' hap
   refine nEq (x := ((i - j : Nat) : Int)) (by rw [wrap64 (by omega) (by omega)]; omega) ?_
   exact ⟨(i - j, j, d2), ⟨by dsimp only; omega, by dsimp only; omega, hj1, hj2, hV2, permIn_trans _ _ _ _ _ hp (permIn_mono _ _ _ _ _ _ (by omega) (by omega) (by rw [H.size hs]; exact hb) hp2), fun R r => hR R (Rot.gt (by omega) (by omega) hsw r)⟩, by dsimp only; omega, ⟨⟨rfl, rfl, rfl, rfl, trivial⟩, ⟨rfl, trivial⟩, rfl, rfl⟩⟩
  ·refine nEq (x := ((m - i : Nat) : Int)) (by rw [wrap64 (by omega) (by omega)]; omega) ?_
   refine nEq (x := ((m + j : Nat) : Int)) (by rw [wrap64 (by omega) (by omega)]; omega) ?_
   refine nEq (x := ((m + j - i : Nat) : Int)) (by rw [wrap64 (by omega) (by omega)]; omega) ?_
   refine cOw (swapRangeF_spec H hle hs (a := m - i) (b := m + j - i) (k := i) (by omega) (by omega)) fun v μ' h' hle' hap hR => ?_
   obtain ⟨rfl, e2, d2, hsw, hp2, rfl, hV2⟩ := hR
   obtain rfl := e2.symm
   clear hle' hap
   refine nEq (x := ((j - i : Nat) : Int)) (by rw [wrap64 (by omega) (by omega)]; omega) ?_
   exact ⟨(i, j - i, d2), ⟨hi1, hi2, by dsimp only; omega, by dsimp only; omega, hV2, permIn_trans _ _ _ _ _ hp (permIn_mono _ _ _ _ _ _ (by omega) (by omega) (by rw [H.size hs]; exact hb) hp2), fun R r => hR R (Rot.ls (by omega) (by omega) hsw r)⟩, by dsimp only; omega, ⟨⟨rfl, rfl, rfl, rfl, trivial⟩, ⟨rfl, trivial⟩, rfl, rfl⟩⟩
 ·obtain rfl : i = j := by omega
  refine nEq (x := ((m - i : Nat) : Int)) (by rw [wrap64 (by omega) (by omega)]; omega) ?_
  refine cOw (swapRangeF_spec H hle hs (a := m - i) (b := m) (k := i) (by omega) (by omega)) fun v μ' h' hle' hap hR => ?_
  obtain ⟨rfl, e2, d2, hsw, hp2, rfl, hV2⟩ := hR
  obtain rfl := e2.symm
  clear hle' hap
  exact rPl ⟨rfl, rfl, d2, hR d2 (Rot.same (by omega) hsw), permIn_trans _ _ _ _ _ hp (permIn_mono _ _ _ _ _ _ (by omega) (by omega) (by rw [H.size hs]; exact hb) hp2), rfl, hV2⟩
end
end Go.Vx
namespace Go.Vx
open Go.Proofs Classical
open Go.Sort
section
variable {α : Type} [Inhabited α] {lt : α → α → Bool} {d d' : Array α} {a q b s m e : Nat}
theorem Split.permL (h : Split lt a q b d) (hq : q ≤ d.size) (p : PermIn a q d d') : Split lt a q b d' := fun x y h1 h2 h3 h4 => by
 rw [p.2.1 y (by omega)]
 exact permIn_all _ _ _ _ (fun v => lt d[y]! v = false) hq p (fun i hi hj => h i y hi hj h3 h4) x h1 h2
theorem Split.permR (h : Split lt a q b d) (hq : b ≤ d.size) (p : PermIn q b d d') : Split lt a q b d' := fun x y h1 h2 h3 h4 => by
 rw [p.2.1 x (by omega)]
 exact permIn_all _ _ _ _ (fun v => lt v d[x]! = false) hq p (fun i hi hj => h x i h1 h2 hi hj) y h3 h4
theorem SortedIn.same (h : SortedIn lt a b d) (e : ∀ k, a ≤ k → k < b → d'[k]! = d[k]!) : SortedIn lt a b d' := fun i j hi hij hj => by
 rw [e j (by omega) hj, e i hi (by omega)]; exact h i j hi hij hj
theorem SortedIn.one (a : Nat) (d : Array α) : SortedIn lt a (a + 1) d := fun i j hi hij hj => by omega
theorem sorted_le (hO : SWO lt) (h : SortedIn lt a b d) {i j : Nat} (hi : a ≤ i) (hij : i ≤ j) (hj : j < b) : lt d[j]! d[i]! = false := by
 rcases Nat.eq_or_lt_of_le hij with e | e
 ·rw [e]; exact hO.irrefl _
 ·exact h i j hi e hj
theorem Rot.left (_h : s ≤ m) (hm : m = e) (d : Array α) : Rot s m e d d := ⟨rfl, fun _ _ => rfl, fun t ht => by omega, fun t ht => by congr 1; omega⟩
theorem Rot.right (h : s = m) (_hm : m ≤ e) (d : Array α) : Rot s m e d d := ⟨rfl, fun _ _ => rfl, fun t ht => by congr 1; omega, fun t ht => by omega⟩
theorem merge_first (hO : SWO lt) {i : Nat} {R : Array α} (h2 : SortedIn lt (a + 1) b d) (hi : a + 1 ≤ i) (hib : i ≤ b) (lo : ∀ x, a + 1 ≤ x → x < i → lt d[x]! d[a]! = true) (hi' : ∀ x, i ≤ x → x < b → lt d[x]! d[a]! = false)
  (r : Rot a (a + 1) i d R) : SortedIn lt a b R := by
 have hq : a + (i - (a + 1)) = i - 1 := by omega
 have h1 : SortedIn lt a (a + 1) d := SortedIn.one a d
 have hc : Cut lt a a (a + 1) i b d := ⟨Nat.le_refl _, by omega, hi, hib, fun x y h3 h4 => by omega, fun x y h3 h4 h5 h6 => by
  obtain rfl : x = a := by omega
  exact lt_asymm hO (lo y h5 h6)⟩
 have S := hc.split h1 h2 r
 have s2 := r.s2 h2 hib hi
 have s3 := r.s3 h1 (Nat.le_refl _) (by omega) hi
 have s4 := r.s4 h2 hi
 rw [hq] at S s2 s3
 refine sorted_join s2 (sorted_join s3 s4 fun x y h3 h4 h5 h6 => ?_) S
 obtain rfl : x = i - 1 := by omega
 have e3 := r.at3 (k := i - 1) hi (by omega) (by omega) (by omega)
 rw [e3, r.at4 h5, show a + (i - 1 - (a + (i - (a + 1)))) = a by omega]
 exact hi' y h5 h6
theorem merge_last (hO : SWO lt) {i : Nat} {R : Array α} (h1 : SortedIn lt a m d) (hi : a ≤ i) (him : i ≤ m) (lo : ∀ x, a ≤ x → x < i → lt d[m]! d[x]! = false) (hi' : ∀ x, i ≤ x → x < m → lt d[m]! d[x]! = true)
  (r : Rot i m (m + 1) d R) : SortedIn lt a (m + 1) R := by
 have hq : i + (m + 1 - m) = i + 1 := by omega
 have h2 : SortedIn lt m (m + 1) d := SortedIn.one m d
 have hc : Cut lt a i m (m + 1) (m + 1) d := ⟨hi, him, by omega, Nat.le_refl _, fun x y h3 h4 h5 h6 => by omega, fun x y h3 h4 h5 h6 => by
  obtain rfl : y = m := by omega
  exact lt_asymm hO (hi' x h3 h4)⟩
 have S := hc.split h1 h2 r
 have s1 := r.s1 h1 him
 have s2 := r.s2 h2 (Nat.le_refl _) (by omega)
 have s3 := r.s3 h1 hi him (by omega)
 rw [hq] at S s2 s3
 refine sorted_join (sorted_join s1 s2 fun x y h3 h4 h5 h6 => ?_) s3 S
 obtain rfl : y = i := by omega
 have e2 := r.at2 (k := y) (Nat.le_refl _) (by omega)
 rw [e2, r.at1 h4, show m + (y - y) = m by omega]
 exact lo x h3 h4
theorem merge_cut (hO : SWO lt) {mid s0 r0 : Nat} (h1 : SortedIn lt a m d) (h2 : SortedIn lt m b d) (ha : a ≤ s0) (hr : r0 ≤ m) (hs : s0 ≤ s) (hsr : s ≤ r0) (hse : s + e = mid + m) (hme : m ≤ e) (heb : e ≤ b)
  (hs0 : s0 = a ∨ s0 + b = mid + m) (hr0 : r0 = m ∨ r0 = mid)
  (lo : ∀ x, s0 ≤ x → x < s → lt d[mid + m - 1 - x]! d[x]! = false) (hi : ∀ x, s ≤ x → x < r0 → lt d[mid + m - 1 - x]! d[x]! = true) : Cut lt a s m e b d := by
 refine ⟨by omega, by omega, hme, heb, fun x y h3 h4 h5 h6 => ?_, fun x y h3 h4 h5 h6 => ?_⟩
 ·rcases Nat.eq_or_lt_of_le hs with g | g
  ·rcases hs0 with g2 | g2 <;> omega
  ·have k1 := lo (s - 1) (by omega) (by omega)
   have k2 := sorted_le hO h1 (i := x) (j := s - 1) h3 (by omega) (by omega)
   have k3 := sorted_le hO h2 (i := mid + m - 1 - (s - 1)) (j := y) (by omega) (by omega) h6
   exact hO.ntrans _ _ _ k3 (hO.ntrans _ _ _ k1 k2)
 ·rcases Nat.eq_or_lt_of_le hsr with g | g
  ·rcases hr0 with g2 | g2 <;> omega
  ·have k1 := lt_asymm hO (hi s (Nat.le_refl _) g)
   have k2 := sorted_le hO h1 (i := s) (j := x) (by omega) h3 h4
   have k3 := sorted_le hO h2 (i := y) (j := mid + m - 1 - s) h5 (by omega) (by omega)
   exact hO.ntrans _ _ _ k2 (hO.ntrans _ _ _ k1 k3)
theorem merge_facts {mid : Nat} (h1 : SortedIn lt a m d) (h2 : SortedIn lt m b d) (k : Cut lt a s m e b d) (r : Rot s m e d d') (hmid : s + e = mid + m) :
  Split lt a mid b d' ∧ SortedIn lt a s d' ∧ SortedIn lt s mid d' ∧ SortedIn lt mid e d' ∧ SortedIn lt e b d' := by
 have hme := k.me
 have e : s + (e - m) = mid := by omega
 have A := k.split h1 h2 r
 have s2 := r.s2 h2 k.eb k.me
 have s3 := r.s3 h1 k.sa k.sm k.me
 rw [e] at A s2 s3
 exact ⟨A, r.s1 h1 k.sm, s2, s3, r.s4 h2 k.me⟩
theorem merge_lo (hO : SWO lt) {p c x : Nat} (h1 : SortedIn lt a m d) (h2 : SortedIn lt m b d) (h : lt d[p - c]! d[c]! = false) (hx : a ≤ x) (hxc : x ≤ c) (hc : c < m) (hm : m ≤ p - c) (hp : p - x < b) : lt d[p - x]! d[x]! = false :=
 hO.ntrans _ _ _ (sorted_le hO h2 (i := p - c) (j := p - x) hm (by omega) hp) (hO.ntrans _ _ _ h (sorted_le hO h1 hx hxc hc))
theorem merge_hi (hO : SWO lt) {p c x : Nat} (h1 : SortedIn lt a m d) (h2 : SortedIn lt m b d) (h : lt d[p - c]! d[c]! = true) (hc : a ≤ c) (hxc : c ≤ x) (hx : x < m) (hm : m ≤ p - x) (hp : p - c < b) : lt d[p - x]! d[x]! = true :=
 lt_of_not hO (lt_of_not' hO h (sorted_le hO h1 hc hxc hx)) (sorted_le hO h2 (i := p - x) (j := p - c) hm (by omega) hp)
end
section
variable {α : Type} [Inhabited α] {lf sf : FuncId} {lb sb : List Value} {n : Nat} {lt : α → α → Bool} {μ0 : Mem} {J : Array α → Mem} {V : Array α → Prop}
set_option maxHeartbeats 8000000 in
theorem symMergeF_spec (H : SortBy lf sf lb sb n lt μ0 J V) (hO : SWO lt) : ∀ (k a m b : Nat) (d : Array α) (μ : Mem), b - a ≤ k → a < m → m < b → b ≤ n → V d → μ0.Le μ → SortedIn lt a m d → SortedIn lt m b d →
  SpecH Try.prog 147 [fdata lf sf lb sb, .int .i64 a, .int .i64 m, .int .i64 b] μ (J d) fun v μ' h' => v = .tuple #[] ∧ μ' = μ ∧ ∃ d', PermIn a b d d' ∧ SortedIn lt a b d' ∧ h' = J d' ∧ V d' := by
 intro k
 induction k with
 | zero => intro a m b d μ hk ham hmb; omega
 | succ k IH =>
 intro a m b d μ hk ham hmb hb hV hle h1 h2
 have hn := H.max
 have hs0 := H.size hV
 refine SpecH.mk [] Try.func147 (by kernel_rfl) ?_
 intro r1
 refine nEq (x := ((m - a : Nat) : Int)) (by rw [wrap64 (by omega) (by omega)]; omega) ?_
 refine ifd (fun g1 => ?_) (fun g1 => ?_)
 ·obtain rfl : m = a + 1 := by omega
  refine lIn (fun p : Nat × Nat => a + 1 ≤ p.1 ∧ p.1 ≤ p.2 ∧ p.2 ≤ b ∧ (∀ x, a + 1 ≤ x → x < p.1 → lt d[x]! d[a]! = true) ∧ ∀ x, p.2 ≤ x → x < b → lt d[x]! d[a]! = false)
   (fun (i, j) => ⟨[(1, .val (.int .i64 a)), (2, .val (.int .i64 (a + 1 : Nat))), (3, .val (.int .i64 b)), (4, .loc 0 r1 0), (8, .val (.int .i64 i)), (9, .val (.int .i64 j))], fblk r1 lf sf lb sb, 1, μ, J d⟩) (fun p => p.2 - p.1)
   (a + 1, b) ⟨Nat.le_refl _, by dsimp only; omega, Nat.le_refl _, fun x h3 h4 => by dsimp only at h4; omega, fun x h3 h4 => by dsimp only at h3; omega⟩ (fun (_, _) => ⟨rfl, rfl⟩) ⟨⟨rfl, rfl, rfl, rfl, rfl, rfl, trivial⟩, ⟨rfl, trivial⟩, rfl, rfl⟩ ?_
  rintro ⟨i, j⟩ ⟨hi, hij, hj, lo, hi'⟩
  dsimp only at hi hij hj lo hi'
  refine ifd (fun h => ?_) (fun h => ?_)
  ·refine num64 (by omega) (by omega) ?_
   refine nEq (wrapu64 (by omega) (by omega)) ?_
   refine need_intro (by omega) ?_
   refine nEq (x := (((i + j) / 2 : Nat) : Int)) ?_ ?_
   ·show Int.fdiv ((i : Int) + j) (2 ^ (min (Int.toNat 1) 64)) = _
    rw [show min (Int.toNat 1) 64 = 1 from rfl, show (2 : Int) ^ 1 = 2 from rfl, Int.fdiv_eq_ediv_of_nonneg _ (by omega)]
    omega
   refine num64 (by omega) (by omega) ?_
   generalize hc : (i + j) / 2 = c
   refine cOw (H.less hle hV (i := c) (j := a) (by omega) (by omega)) fun v μ' h' hle' hap hR => ?_
   obtain ⟨rfl, e2, rfl⟩ := hR
   obtain rfl := e2.symm
   clear hle' hap
   refine iIn (fun hl => ?_) (fun hl => ?_)
   ·refine nEq (x := ((c + 1 : Nat) : Int)) (by rw [wrap64 (by omega) (by omega)]; omega) ?_
    exact ⟨(c + 1, j), ⟨by dsimp only; omega, by dsimp only; omega, hj, fun x h3 h4 => by
     dsimp only at h4
     exact lt_of_not hO hl (sorted_le hO h2 h3 (by omega) (by omega)), hi'⟩, by dsimp only; omega, ⟨⟨rfl, rfl, rfl, rfl, rfl, rfl, trivial⟩, ⟨rfl, trivial⟩, rfl, rfl⟩⟩
   ·exact ⟨(i, c), ⟨hi, by dsimp only; omega, by dsimp only; omega, lo, fun x h3 h4 => by
     dsimp only at h3
     exact hO.ntrans _ _ _ (sorted_le hO h2 (by omega) h3 h4) hl⟩, by dsimp only; omega, ⟨⟨rfl, rfl, rfl, rfl, rfl, rfl, trivial⟩, ⟨rfl, trivial⟩, rfl, rfl⟩⟩
  ·obtain rfl : i = j := by omega
   refine lIn (fun p : Nat × Array α => a ≤ p.1 ∧ p.1 + 1 ≤ i ∧ V p.2 ∧ Rot a (a + 1) (p.1 + 1) d p.2 ∧ PermIn a b d p.2)
    (fun (k, c) => ⟨[(1, .val (.int .i64 a)), (2, .val (.int .i64 (a + 1 : Nat))), (3, .val (.int .i64 b)), (4, .loc 0 r1 0), (8, .val (.int .i64 i)), (11, .val (.int .i64 k))], fblk r1 lf sf lb sb, 1, μ, J c⟩) (fun p => i - p.1)
    (a, d) ⟨Nat.le_refl _, hi, hV, Rot.up0 _ _, permIn_refl _ _ _⟩ (fun (_, _) => ⟨rfl, rfl⟩) ⟨⟨rfl, rfl, rfl, rfl, rfl, rfl, trivial⟩, ⟨rfl, trivial⟩, rfl, rfl⟩ ?_
   rintro ⟨k, c⟩ ⟨hk1, hk2, hs, hr, hp⟩
   dsimp only at hk1 hk2 hs hr hp
   refine nEq (x := ((i - 1 : Nat) : Int)) (by rw [wrap64 (by omega) (by omega)]; omega) ?_
   refine ifd (fun h3 => ?_) (fun h3 => ?_)
   ·refine nEq (x := ((k + 1 : Nat) : Int)) (by rw [wrap64 (by omega) (by omega)]; omega) ?_
    refine cOw (H.swap hle hs (i := k) (j := k + 1) (by omega) (by omega)) fun v μ' h' hle' hap hR => ?_
    obtain ⟨rfl, e2, rfl⟩ := hR
    obtain rfl := e2.symm
    clear hle' hap
    refine nEq (x := ((k + 1 : Nat) : Int)) (by rw [wrap64 (by omega) (by omega)]; omega) ?_
    exact ⟨(k + 1, swp c k (k + 1)), ⟨by dsimp only; omega, by dsimp only; omega, H.sw hs (by omega) (by omega), hr.up hk1 (by omega), permIn_trans _ _ _ _ _ hp (swp_permIn _ _ _ _ _ (by omega) (by omega) (by omega) (by omega) (by rw [H.size hs]; exact hb))⟩, by dsimp only; omega, ⟨⟨rfl, rfl, rfl, rfl, rfl, rfl, trivial⟩, ⟨rfl, trivial⟩, rfl, rfl⟩⟩
   ·obtain rfl : i = k + 1 := by omega
    exact rPl ⟨rfl, rfl, c, hp, merge_first hO h2 hi hj lo hi' hr, rfl, hs⟩
 refine nEq (x := ((b - m : Nat) : Int)) (by rw [wrap64 (by omega) (by omega)]; omega) ?_
 refine ifd (fun g2 => ?_) (fun g2 => ?_)
 ·obtain rfl : b = m + 1 := by omega
  refine lIn (fun p : Nat × Nat => a ≤ p.1 ∧ p.1 ≤ p.2 ∧ p.2 ≤ m ∧ (∀ x, a ≤ x → x < p.1 → lt d[m]! d[x]! = false) ∧ ∀ x, p.2 ≤ x → x < m → lt d[m]! d[x]! = true)
   (fun (i, j) => ⟨[(1, .val (.int .i64 a)), (2, .val (.int .i64 m)), (3, .val (.int .i64 (m + 1 : Nat))), (4, .loc 0 r1 0), (12, .val (.int .i64 i)), (13, .val (.int .i64 j))], fblk r1 lf sf lb sb, 1, μ, J d⟩) (fun p => p.2 - p.1)
   (a, m) ⟨Nat.le_refl _, by dsimp only; omega, Nat.le_refl _, fun x h3 h4 => by dsimp only at h4; omega, fun x h3 h4 => by dsimp only at h3; omega⟩ (fun (_, _) => ⟨rfl, rfl⟩) ⟨⟨rfl, rfl, rfl, rfl, rfl, rfl, trivial⟩, ⟨rfl, trivial⟩, rfl, rfl⟩ ?_
  rintro ⟨i, j⟩ ⟨hi, hij, hj, lo, hi'⟩
  dsimp only at hi hij hj lo hi'
  refine ifd (fun h => ?_) (fun h => ?_)
  ·refine num64 (by omega) (by omega) ?_
   refine nEq (wrapu64 (by omega) (by omega)) ?_
   refine need_intro (by omega) ?_
   refine nEq (x := (((i + j) / 2 : Nat) : Int)) ?_ ?_
   ·show Int.fdiv ((i : Int) + j) (2 ^ (min (Int.toNat 1) 64)) = _
    rw [show min (Int.toNat 1) 64 = 1 from rfl, show (2 : Int) ^ 1 = 2 from rfl, Int.fdiv_eq_ediv_of_nonneg _ (by omega)]
    omega
   refine num64 (by omega) (by omega) ?_
   generalize hc : (i + j) / 2 = c
   refine cOw (H.less hle hV (i := m) (j := c) (by omega) (by omega)) fun v μ' h' hle' hap hR => ?_
   obtain ⟨rfl, e2, rfl⟩ := hR
   obtain rfl := e2.symm
   clear hle' hap
   refine iIn (fun hl => ?_) (fun hl => ?_)
   ·have hl' : lt d[m]! d[c]! = false := by simpa using hl
    refine nEq (x := ((c + 1 : Nat) : Int)) (by rw [wrap64 (by omega) (by omega)]; omega) ?_
    exact ⟨(c + 1, j), ⟨by dsimp only; omega, by dsimp only; omega, hj, fun x h3 h4 => by
     dsimp only at h4
     exact hO.ntrans _ _ _ hl' (sorted_le hO h1 h3 (by omega) (by omega)), hi'⟩, by dsimp only; omega, ⟨⟨rfl, rfl, rfl, rfl, rfl, rfl, trivial⟩, ⟨rfl, trivial⟩, rfl, rfl⟩⟩
   ·have hl' : lt d[m]! d[c]! = true := by simpa using hl
    exact ⟨(i, c), ⟨hi, by dsimp only; omega, by dsimp only; omega, lo, fun x h3 h4 => by
     dsimp only at h3
     exact lt_of_not' hO hl' (sorted_le hO h1 (by omega) h3 h4)⟩, by dsimp only; omega, ⟨⟨rfl, rfl, rfl, rfl, rfl, rfl, trivial⟩, ⟨rfl, trivial⟩, rfl, rfl⟩⟩
  ·obtain rfl : i = j := by omega
   refine lIn (fun p : Nat × Array α => i ≤ p.1 ∧ p.1 ≤ m ∧ V p.2 ∧ Rot p.1 m (m + 1) d p.2 ∧ PermIn a (m + 1) d p.2)
    (fun (k, c) => ⟨[(1, .val (.int .i64 a)), (2, .val (.int .i64 m)), (3, .val (.int .i64 (m + 1 : Nat))), (4, .loc 0 r1 0), (12, .val (.int .i64 i)), (15, .val (.int .i64 k))], fblk r1 lf sf lb sb, 1, μ, J c⟩) (fun p => p.1)
    (m, d) ⟨hj, Nat.le_refl _, hV, Rot.down0 _ _, permIn_refl _ _ _⟩ (fun (_, _) => ⟨rfl, rfl⟩) ⟨⟨rfl, rfl, rfl, rfl, rfl, rfl, trivial⟩, ⟨rfl, trivial⟩, rfl, rfl⟩ ?_
   rintro ⟨k, c⟩ ⟨hk1, hk2, hs, hr, hp⟩
   dsimp only at hk1 hk2 hs hr hp
   refine ifd (fun h3 => ?_) (fun h3 => ?_)
   ·obtain ⟨k, rfl⟩ : ∃ k', k = k' + 1 := ⟨k - 1, by omega⟩
    refine nEq (x := ((k : Nat) : Int)) (by rw [wrap64 (by omega) (by omega)]; omega) ?_
    refine cOw (H.swap hle hs (i := k + 1) (j := k) (by omega) (by omega)) fun v μ' h' hle' hap hR => ?_
    obtain ⟨rfl, e2, rfl⟩ := hR
    obtain rfl := e2.symm
    clear hle' hap
    refine nEq (x := ((k : Nat) : Int)) (by rw [wrap64 (by omega) (by omega)]; omega) ?_
    exact ⟨(k, swp c (k + 1) k), ⟨by dsimp only; omega, by dsimp only; omega, H.sw hs (by omega) (by omega), hr.down (by omega) (by omega), permIn_trans _ _ _ _ _ hp (swp_permIn _ _ _ _ _ (by omega) (by omega) (by omega) (by omega) (by rw [H.size hs]; exact hb))⟩, by dsimp only; omega, ⟨⟨rfl, rfl, rfl, rfl, rfl, rfl, trivial⟩, ⟨rfl, trivial⟩, rfl, rfl⟩⟩
   ·obtain rfl : k = i := by omega
    exact rPl ⟨rfl, rfl, c, hp, merge_last hO h1 hi hj lo hi' hr, rfl, hs⟩
 refine num64 (by omega) (by omega) ?_
 refine nEq (wrapu64 (by omega) (by omega)) ?_
 refine need_intro (by omega) ?_
 refine nEq (x := (((a + b) / 2 : Nat) : Int)) ?_ ?_
 ·show Int.fdiv ((a : Int) + b) (2 ^ (min (Int.toNat 1) 64)) = _
  rw [show min (Int.toNat 1) 64 = 1 from rfl, show (2 : Int) ^ 1 = 2 from rfl, Int.fdiv_eq_ediv_of_nonneg _ (by omega)]
  omega
 refine num64 (by omega) (by omega) ?_
 generalize hmid : (a + b) / 2 = mid
 refine nEq (x := ((mid + m : Nat) : Int)) (by rw [wrap64 (by omega) (by omega)]; omega) ?_
 refine ifd (fun g3 => ?_) (fun g3 => ?_)
 ·refine nEq (x := ((mid + m - b : Nat) : Int)) (by rw [wrap64 (by omega) (by omega)]; omega) ?_
  refine nEq (x := ((mid + m - 1 : Nat) : Int)) (by rw [wrap64 (by omega) (by omega)]; omega) ?_
  refine lIn (fun p : Nat × Nat => mid + m - b ≤ p.1 ∧ p.1 ≤ p.2 ∧ p.2 ≤ mid ∧ (∀ x, mid + m - b ≤ x → x < p.1 → lt d[mid + m - 1 - x]! d[x]! = false) ∧ ∀ x, p.2 ≤ x → x < mid → lt d[mid + m - 1 - x]! d[x]! = true)
   (fun (i, j) => ⟨[(1, .val (.int .i64 a)), (2, .val (.int .i64 m)), (3, .val (.int .i64 b)), (4, .loc 0 r1 0), (16, .val (.int .i64 mid)), (17, .val (.int .i64 (mid + m : Nat))), (18, .val (.int .i64 i)), (19, .val (.int .i64 j)), (20, .val (.int .i64 (mid + m - 1 : Nat)))], fblk r1 lf sf lb sb, 1, μ, J d⟩) (fun p => p.2 - p.1)
   (mid + m - b, mid) ⟨Nat.le_refl _, by dsimp only; omega, Nat.le_refl _, fun x h3 h4 => by dsimp only at h4; omega, fun x h3 h4 => by dsimp only at h3; omega⟩ (fun (_, _) => ⟨rfl, rfl⟩) ⟨⟨rfl, rfl, rfl, rfl, rfl, rfl, rfl, rfl, rfl, trivial⟩, ⟨rfl, trivial⟩, rfl, rfl⟩ ?_
  rintro ⟨i, j⟩ ⟨hi, hij, hj, lo, hi'⟩
  dsimp only at hi hij hj lo hi'
  refine ifd (fun h => ?_) (fun h => ?_)
  ·refine num64 (by omega) (by omega) ?_
   refine nEq (wrapu64 (by omega) (by omega)) ?_
   refine need_intro (by omega) ?_
   refine nEq (x := (((i + j) / 2 : Nat) : Int)) ?_ ?_
   ·show Int.fdiv ((i : Int) + j) (2 ^ (min (Int.toNat 1) 64)) = _
    rw [show min (Int.toNat 1) 64 = 1 from rfl, show (2 : Int) ^ 1 = 2 from rfl, Int.fdiv_eq_ediv_of_nonneg _ (by omega)]
    omega
   refine num64 (by omega) (by omega) ?_
   generalize hc : (i + j) / 2 = c
   refine nEq (x := ((mid + m - 1 - c : Nat) : Int)) (by rw [wrap64 (by omega) (by omega)]; omega) ?_
   refine cOw (H.less hle hV (i := mid + m - 1 - c) (j := c) (by omega) (by omega)) fun v μ' h' hle' hap hR => ?_
   obtain ⟨rfl, e2, rfl⟩ := hR
   obtain rfl := e2.symm
   clear hle' hap
   refine iIn (fun hl => ?_) (fun hl => ?_)
   ·have hl' : lt d[mid + m - 1 - c]! d[c]! = false := by simpa using hl
    refine nEq (x := ((c + 1 : Nat) : Int)) (by rw [wrap64 (by omega) (by omega)]; omega) ?_
    exact ⟨(c + 1, j), ⟨by dsimp only; omega, by dsimp only; omega, hj, fun x h3 h4 => by
     dsimp only at h4
     exact merge_lo hO h1 h2 hl' (by omega) (by omega) (by omega) (by omega) (by omega), hi'⟩, by dsimp only; omega, ⟨⟨rfl, rfl, rfl, rfl, rfl, rfl, rfl, rfl, rfl, trivial⟩, ⟨rfl, trivial⟩, rfl, rfl⟩⟩
   ·have hl' : lt d[mid + m - 1 - c]! d[c]! = true := by simpa using hl
    exact ⟨(i, c), ⟨hi, by dsimp only; omega, by dsimp only; omega, lo, fun x h3 h4 => by
     dsimp only at h3
     exact merge_hi hO h1 h2 hl' (by omega) h3 (by omega) (by omega) (by omega)⟩, by dsimp only; omega, ⟨⟨rfl, rfl, rfl, rfl, rfl, rfl, rfl, rfl, rfl, trivial⟩, ⟨rfl, trivial⟩, rfl, rfl⟩⟩
  obtain rfl : i = j := by omega
  obtain ⟨e, he⟩ : ∃ e, e = mid + m - i := ⟨_, rfl⟩
  have hcut : Cut lt a i m e b d := merge_cut (mid := mid) (s0 := mid + m - b) (r0 := mid) hO h1 h2 (by omega) (by omega) hi hj (by omega) (by omega) (by omega) (by omega) (by omega) lo hi'
  refine nEq (x := ((e : Nat) : Int)) (by rw [wrap64 (by omega) (by omega)]; omega) ?_
  refine ifd (fun k1 => ?_) (fun k1 => ?_)
  ·refine ifd (fun k2 => ?_) (fun k2 => ?_)
   ·refine cOw (rotateF_spec H hle hV (a := i) (m := m) (b := e) (by omega) (by omega) (by omega)) fun v μ' h' hle' hap hR => ?_
    obtain ⟨rfl, e2, d1, hr, hp1, rfl, hV1⟩ := hR
    obtain rfl := e2.symm
    clear hle' hap
    replace hp1 : PermIn a b d d1 := permIn_mono _ _ _ _ _ _ (by omega) (by omega) (by omega) hp1
    have w_ := merge_facts (mid := mid) h1 h2 hcut (hr) (by omega)
    obtain ⟨S, s1, s2, s3, s4⟩ := w_
    refine ifd (fun k3 => ?_) (fun k3 => ?_)
    ·refine ifd (fun k4 => ?_) (fun k4 => ?_)
     ·refine cOw (IH a i mid d1 _ (by omega) (by omega) (by omega) (by omega) hV1 hle s1 s2) fun v μ' h' hle' hap hR => ?_
      obtain ⟨rfl, e2, d4, hp4, hs4, rfl, hV4⟩ := hR
      obtain rfl := e2.symm
      clear hle' hap
      have hz4 : mid ≤ (d1).size := by rw [H.size hV1]; omega
      refine ifd (fun k5 => ?_) (fun k5 => ?_)
      ·refine ifd (fun k6 => ?_) (fun k6 => ?_)
       ·refine cOw (IH _ e b d4 _ (by omega) (by omega) (by omega) (by omega) hV4 hle (SortedIn.same s3 fun k h5 h6 => hp4.2.1 k (by omega)) (SortedIn.same s4 fun k h5 h6 => hp4.2.1 k (by omega))) fun v μ' h' hle' hap hR => ?_
        obtain ⟨rfl, e2, d5, hp5, hs5, rfl, hV5⟩ := hR
        obtain rfl := e2.symm
        clear hle' hap
        exact rPl ⟨rfl, rfl, d5, permIn_trans _ _ _ _ _ (permIn_trans _ _ _ _ _ hp1 (permIn_mono _ _ _ _ _ _ (Nat.le_refl _) (by omega) (by rw [H.size hV1]; exact hb) hp4)) (permIn_mono _ _ _ _ _ _ (by omega) (Nat.le_refl _) (by rw [H.size hV4]; exact hb) hp5), sorted_join (SortedIn.same hs4 fun k h5 h6 => hp5.2.1 k (by omega)) hs5 (Split.permR (S.permL hz4 hp4) (by rw [H.size hV4]; exact hb) hp5), rfl, hV5⟩
       ·have k7 : e = b := by omega
        exact rPl ⟨rfl, rfl, d4, (permIn_trans _ _ _ _ _ hp1 (permIn_mono _ _ _ _ _ _ (Nat.le_refl _) (by omega) (by rw [H.size hV1]; exact hb) hp4)), sorted_join hs4 (by have h := (SortedIn.same s3 fun k h5 h6 => hp4.2.1 k (by omega)); rwa [k7] at h) (S.permL hz4 hp4), rfl, hV4⟩
      ·have k7 : e = mid := by omega
       exact rPl ⟨rfl, rfl, d4, (permIn_trans _ _ _ _ _ hp1 (permIn_mono _ _ _ _ _ _ (Nat.le_refl _) (by omega) (by rw [H.size hV1]; exact hb) hp4)), sorted_join hs4 (by have h := (SortedIn.same s4 fun k h5 h6 => hp4.2.1 k (by omega)); rwa [k7] at h) (S.permL hz4 hp4), rfl, hV4⟩
     ·obtain rfl : mid = i := by omega
      refine ifd (fun k5 => ?_) (fun k5 => ?_)
      ·refine ifd (fun k6 => ?_) (fun k6 => ?_)
       ·refine cOw (IH _ e b d1 _ (by omega) (by omega) (by omega) (by omega) hV1 hle s3 s4) fun v μ' h' hle' hap hR => ?_
        obtain ⟨rfl, e2, d5, hp5, hs5, rfl, hV5⟩ := hR
        obtain rfl := e2.symm
        clear hle' hap
        exact rPl ⟨rfl, rfl, d5, permIn_trans _ _ _ _ _ hp1 (permIn_mono _ _ _ _ _ _ (by omega) (Nat.le_refl _) (by rw [H.size hV1]; exact hb) hp5), sorted_join (SortedIn.same s1 fun k h5 h6 => hp5.2.1 k (by omega)) hs5 (Split.permR S (by rw [H.size hV1]; exact hb) hp5), rfl, hV5⟩
       ·have k7 : e = b := by omega
        exact rPl ⟨rfl, rfl, d1, hp1, sorted_join s1 (by have h := s3; rwa [k7] at h) S, rfl, hV1⟩
      ·have k7 : e = mid := by omega
       exact rPl ⟨rfl, rfl, d1, hp1, sorted_join s1 (by have h := s4; rwa [k7] at h) S, rfl, hV1⟩
    ·obtain rfl : a = i := by omega
     refine ifd (fun k5 => ?_) (fun k5 => ?_)
     ·refine ifd (fun k6 => ?_) (fun k6 => ?_)
      ·refine cOw (IH _ e b d1 _ (by omega) (by omega) (by omega) (by omega) hV1 hle s3 s4) fun v μ' h' hle' hap hR => ?_
       obtain ⟨rfl, e2, d5, hp5, hs5, rfl, hV5⟩ := hR
       obtain rfl := e2.symm
       clear hle' hap
       exact rPl ⟨rfl, rfl, d5, permIn_trans _ _ _ _ _ hp1 (permIn_mono _ _ _ _ _ _ (by omega) (Nat.le_refl _) (by rw [H.size hV1]; exact hb) hp5), sorted_join (SortedIn.same s2 fun k h5 h6 => hp5.2.1 k (by omega)) hs5 (Split.permR S (by rw [H.size hV1]; exact hb) hp5), rfl, hV5⟩
      ·have k7 : e = b := by omega
       exact rPl ⟨rfl, rfl, d1, hp1, sorted_join s2 (by have h := s3; rwa [k7] at h) S, rfl, hV1⟩
     ·have k7 : e = mid := by omega
      exact rPl ⟨rfl, rfl, d1, hp1, sorted_join s2 (by have h := s4; rwa [k7] at h) S, rfl, hV1⟩
   ·have w_ := merge_facts (mid := mid) h1 h2 hcut (Rot.left (by omega) (by omega) d) (by omega)
    obtain ⟨S, s1, s2, s3, s4⟩ := w_
    refine ifd (fun k3 => ?_) (fun k3 => ?_)
    ·refine ifd (fun k4 => ?_) (fun k4 => ?_)
     ·refine cOw (IH a i mid d _ (by omega) (by omega) (by omega) (by omega) hV hle s1 s2) fun v μ' h' hle' hap hR => ?_
      obtain ⟨rfl, e2, d4, hp4, hs4, rfl, hV4⟩ := hR
      obtain rfl := e2.symm
      clear hle' hap
      have hz4 : mid ≤ (d).size := by rw [H.size hV]; omega
      refine ifd (fun k5 => ?_) (fun k5 => ?_)
      ·refine ifd (fun k6 => ?_) (fun k6 => ?_)
       ·refine cOw (IH _ e b d4 _ (by omega) (by omega) (by omega) (by omega) hV4 hle (SortedIn.same s3 fun k h5 h6 => hp4.2.1 k (by omega)) (SortedIn.same s4 fun k h5 h6 => hp4.2.1 k (by omega))) fun v μ' h' hle' hap hR => ?_
        obtain ⟨rfl, e2, d5, hp5, hs5, rfl, hV5⟩ := hR
        obtain rfl := e2.symm
        clear hle' hap
        exact rPl ⟨rfl, rfl, d5, permIn_trans _ _ _ _ _ (permIn_trans _ _ _ _ _ (permIn_refl d a b) (permIn_mono _ _ _ _ _ _ (Nat.le_refl _) (by omega) (by rw [H.size hV]; exact hb) hp4)) (permIn_mono _ _ _ _ _ _ (by omega) (Nat.le_refl _) (by rw [H.size hV4]; exact hb) hp5), sorted_join (SortedIn.same hs4 fun k h5 h6 => hp5.2.1 k (by omega)) hs5 (Split.permR (S.permL hz4 hp4) (by rw [H.size hV4]; exact hb) hp5), rfl, hV5⟩
       ·have k7 : e = b := by omega
        exact rPl ⟨rfl, rfl, d4, (permIn_trans _ _ _ _ _ (permIn_refl d a b) (permIn_mono _ _ _ _ _ _ (Nat.le_refl _) (by omega) (by rw [H.size hV]; exact hb) hp4)), sorted_join hs4 (by have h := (SortedIn.same s3 fun k h5 h6 => hp4.2.1 k (by omega)); rwa [k7] at h) (S.permL hz4 hp4), rfl, hV4⟩
      ·have k7 : e = mid := by omega
       exact rPl ⟨rfl, rfl, d4, (permIn_trans _ _ _ _ _ (permIn_refl d a b) (permIn_mono _ _ _ _ _ _ (Nat.le_refl _) (by omega) (by rw [H.size hV]; exact hb) hp4)), sorted_join hs4 (by have h := (SortedIn.same s4 fun k h5 h6 => hp4.2.1 k (by omega)); rwa [k7] at h) (S.permL hz4 hp4), rfl, hV4⟩
     ·obtain rfl : mid = i := by omega
      refine ifd (fun k5 => ?_) (fun k5 => ?_)
      ·refine ifd (fun k6 => ?_) (fun k6 => ?_)
       ·refine cOw (IH _ e b d _ (by omega) (by omega) (by omega) (by omega) hV hle s3 s4) fun v μ' h' hle' hap hR => ?_
        obtain ⟨rfl, e2, d5, hp5, hs5, rfl, hV5⟩ := hR
        obtain rfl := e2.symm
        clear hle' hap
        exact rPl ⟨rfl, rfl, d5, permIn_trans _ _ _ _ _ (permIn_refl d a b) (permIn_mono _ _ _ _ _ _ (by omega) (Nat.le_refl _) (by rw [H.size hV]; exact hb) hp5), sorted_join (SortedIn.same s1 fun k h5 h6 => hp5.2.1 k (by omega)) hs5 (Split.permR S (by rw [H.size hV]; exact hb) hp5), rfl, hV5⟩
       ·have k7 : e = b := by omega
        exact rPl ⟨rfl, rfl, d, (permIn_refl d a b), sorted_join s1 (by have h := s3; rwa [k7] at h) S, rfl, hV⟩
      ·have k7 : e = mid := by omega
       exact rPl ⟨rfl, rfl, d, (permIn_refl d a b), sorted_join s1 (by have h := s4; rwa [k7] at h) S, rfl, hV⟩
    ·obtain rfl : a = i := by omega
     refine ifd (fun k5 => ?_) (fun k5 => ?_)
     ·refine ifd (fun k6 => ?_) (fun k6 => ?_)
      ·refine cOw (IH _ e b d _ (by omega) (by omega) (by omega) (by omega) hV hle s3 s4) fun v μ' h' hle' hap hR => ?_
       obtain ⟨rfl, e2, d5, hp5, hs5, rfl, hV5⟩ := hR
       obtain rfl := e2.symm
       clear hle' hap
       exact rPl ⟨rfl, rfl, d5, permIn_trans _ _ _ _ _ (permIn_refl d a b) (permIn_mono _ _ _ _ _ _ (by omega) (Nat.le_refl _) (by rw [H.size hV]; exact hb) hp5), sorted_join (SortedIn.same s2 fun k h5 h6 => hp5.2.1 k (by omega)) hs5 (Split.permR S (by rw [H.size hV]; exact hb) hp5), rfl, hV5⟩
      ·have k7 : e = b := by omega
       exact rPl ⟨rfl, rfl, d, (permIn_refl d a b), sorted_join s2 (by have h := s3; rwa [k7] at h) S, rfl, hV⟩
     ·have k7 : e = mid := by omega
      exact rPl ⟨rfl, rfl, d, (permIn_refl d a b), sorted_join s2 (by have h := s4; rwa [k7] at h) S, rfl, hV⟩
  ·have w_ := merge_facts (mid := mid) h1 h2 hcut (Rot.right (by omega) (by omega) d) (by omega)
   obtain ⟨S, s1, s2, s3, s4⟩ := w_
   refine ifd (fun k3 => ?_) (fun k3 => ?_)
   ·refine ifd (fun k4 => ?_) (fun k4 => ?_)
    ·refine cOw (IH a i mid d _ (by omega) (by omega) (by omega) (by omega) hV hle s1 s2) fun v μ' h' hle' hap hR => ?_
     obtain ⟨rfl, e2, d4, hp4, hs4, rfl, hV4⟩ := hR
     obtain rfl := e2.symm
     clear hle' hap
     have hz4 : mid ≤ (d).size := by rw [H.size hV]; omega
     refine ifd (fun k5 => ?_) (fun k5 => ?_)
     ·refine ifd (fun k6 => ?_) (fun k6 => ?_)
      ·refine cOw (IH _ e b d4 _ (by omega) (by omega) (by omega) (by omega) hV4 hle (SortedIn.same s3 fun k h5 h6 => hp4.2.1 k (by omega)) (SortedIn.same s4 fun k h5 h6 => hp4.2.1 k (by omega))) fun v μ' h' hle' hap hR => ?_
       obtain ⟨rfl, e2, d5, hp5, hs5, rfl, hV5⟩ := hR
       obtain rfl := e2.symm
       clear hle' hap
       exact rPl ⟨rfl, rfl, d5, permIn_trans _ _ _ _ _ (permIn_trans _ _ _ _ _ (permIn_refl d a b) (permIn_mono _ _ _ _ _ _ (Nat.le_refl _) (by omega) (by rw [H.size hV]; exact hb) hp4)) (permIn_mono _ _ _ _ _ _ (by omega) (Nat.le_refl _) (by rw [H.size hV4]; exact hb) hp5), sorted_join (SortedIn.same hs4 fun k h5 h6 => hp5.2.1 k (by omega)) hs5 (Split.permR (S.permL hz4 hp4) (by rw [H.size hV4]; exact hb) hp5), rfl, hV5⟩
      ·have k7 : e = b := by omega
       exact rPl ⟨rfl, rfl, d4, (permIn_trans _ _ _ _ _ (permIn_refl d a b) (permIn_mono _ _ _ _ _ _ (Nat.le_refl _) (by omega) (by rw [H.size hV]; exact hb) hp4)), sorted_join hs4 (by have h := (SortedIn.same s3 fun k h5 h6 => hp4.2.1 k (by omega)); rwa [k7] at h) (S.permL hz4 hp4), rfl, hV4⟩
     ·have k7 : e = mid := by omega
      exact rPl ⟨rfl, rfl, d4, (permIn_trans _ _ _ _ _ (permIn_refl d a b) (permIn_mono _ _ _ _ _ _ (Nat.le_refl _) (by omega) (by rw [H.size hV]; exact hb) hp4)), sorted_join hs4 (by have h := (SortedIn.same s4 fun k h5 h6 => hp4.2.1 k (by omega)); rwa [k7] at h) (S.permL hz4 hp4), rfl, hV4⟩
    ·obtain rfl : mid = i := by omega
     refine ifd (fun k5 => ?_) (fun k5 => ?_)
     ·refine ifd (fun k6 => ?_) (fun k6 => ?_)
      ·refine cOw (IH _ e b d _ (by omega) (by omega) (by omega) (by omega) hV hle s3 s4) fun v μ' h' hle' hap hR => ?_
       obtain ⟨rfl, e2, d5, hp5, hs5, rfl, hV5⟩ := hR
       obtain rfl := e2.symm
       clear hle' hap
       exact rPl ⟨rfl, rfl, d5, permIn_trans _ _ _ _ _ (permIn_refl d a b) (permIn_mono _ _ _ _ _ _ (by omega) (Nat.le_refl _) (by rw [H.size hV]; exact hb) hp5), sorted_join (SortedIn.same s1 fun k h5 h6 => hp5.2.1 k (by omega)) hs5 (Split.permR S (by rw [H.size hV]; exact hb) hp5), rfl, hV5⟩
      ·have k7 : e = b := by omega
       exact rPl ⟨rfl, rfl, d, (permIn_refl d a b), sorted_join s1 (by have h := s3; rwa [k7] at h) S, rfl, hV⟩
     ·have k7 : e = mid := by omega
      exact rPl ⟨rfl, rfl, d, (permIn_refl d a b), sorted_join s1 (by have h := s4; rwa [k7] at h) S, rfl, hV⟩
   ·obtain rfl : a = i := by omega
    refine ifd (fun k5 => ?_) (fun k5 => ?_)
    ·refine ifd (fun k6 => ?_) (fun k6 => ?_)
     ·refine cOw (IH _ e b d _ (by omega) (by omega) (by omega) (by omega) hV hle s3 s4) fun v μ' h' hle' hap hR => ?_
      obtain ⟨rfl, e2, d5, hp5, hs5, rfl, hV5⟩ := hR
      obtain rfl := e2.symm
      clear hle' hap
      exact rPl ⟨rfl, rfl, d5, permIn_trans _ _ _ _ _ (permIn_refl d a b) (permIn_mono _ _ _ _ _ _ (by omega) (Nat.le_refl _) (by rw [H.size hV]; exact hb) hp5), sorted_join (SortedIn.same s2 fun k h5 h6 => hp5.2.1 k (by omega)) hs5 (Split.permR S (by rw [H.size hV]; exact hb) hp5), rfl, hV5⟩
     ·have k7 : e = b := by omega
      exact rPl ⟨rfl, rfl, d, (permIn_refl d a b), sorted_join s2 (by have h := s3; rwa [k7] at h) S, rfl, hV⟩
    ·have k7 : e = mid := by omega
     exact rPl ⟨rfl, rfl, d, (permIn_refl d a b), sorted_join s2 (by have h := s4; rwa [k7] at h) S, rfl, hV⟩
 ·refine nEq (x := ((mid + m - 1 : Nat) : Int)) (by rw [wrap64 (by omega) (by omega)]; omega) ?_
  refine lIn (fun p : Nat × Nat => a ≤ p.1 ∧ p.1 ≤ p.2 ∧ p.2 ≤ m ∧ (∀ x, a ≤ x → x < p.1 → lt d[mid + m - 1 - x]! d[x]! = false) ∧ ∀ x, p.2 ≤ x → x < m → lt d[mid + m - 1 - x]! d[x]! = true)
   (fun (i, j) => ⟨[(1, .val (.int .i64 a)), (2, .val (.int .i64 m)), (3, .val (.int .i64 b)), (4, .loc 0 r1 0), (16, .val (.int .i64 mid)), (17, .val (.int .i64 (mid + m : Nat))), (18, .val (.int .i64 i)), (19, .val (.int .i64 j)), (20, .val (.int .i64 (mid + m - 1 : Nat)))], fblk r1 lf sf lb sb, 1, μ, J d⟩) (fun p => p.2 - p.1)
   (a, m) ⟨Nat.le_refl _, by dsimp only; omega, Nat.le_refl _, fun x h3 h4 => by dsimp only at h4; omega, fun x h3 h4 => by dsimp only at h3; omega⟩ (fun (_, _) => ⟨rfl, rfl⟩) ⟨⟨rfl, rfl, rfl, rfl, rfl, rfl, rfl, rfl, rfl, trivial⟩, ⟨rfl, trivial⟩, rfl, rfl⟩ ?_
  rintro ⟨i, j⟩ ⟨hi, hij, hj, lo, hi'⟩
  dsimp only at hi hij hj lo hi'
  refine ifd (fun h => ?_) (fun h => ?_)
  ·refine num64 (by omega) (by omega) ?_
   refine nEq (wrapu64 (by omega) (by omega)) ?_
   refine need_intro (by omega) ?_
   refine nEq (x := (((i + j) / 2 : Nat) : Int)) ?_ ?_
   ·show Int.fdiv ((i : Int) + j) (2 ^ (min (Int.toNat 1) 64)) = _
    rw [show min (Int.toNat 1) 64 = 1 from rfl, show (2 : Int) ^ 1 = 2 from rfl, Int.fdiv_eq_ediv_of_nonneg _ (by omega)]
    omega
   refine num64 (by omega) (by omega) ?_
   generalize hc : (i + j) / 2 = c
   refine nEq (x := ((mid + m - 1 - c : Nat) : Int)) (by rw [wrap64 (by omega) (by omega)]; omega) ?_
   refine cOw (H.less hle hV (i := mid + m - 1 - c) (j := c) (by omega) (by omega)) fun v μ' h' hle' hap hR => ?_
   obtain ⟨rfl, e2, rfl⟩ := hR
   obtain rfl := e2.symm
   clear hle' hap
   refine iIn (fun hl => ?_) (fun hl => ?_)
   ·have hl' : lt d[mid + m - 1 - c]! d[c]! = false := by simpa using hl
    refine nEq (x := ((c + 1 : Nat) : Int)) (by rw [wrap64 (by omega) (by omega)]; omega) ?_
    exact ⟨(c + 1, j), ⟨by dsimp only; omega, by dsimp only; omega, hj, fun x h3 h4 => by
     dsimp only at h4
     exact merge_lo hO h1 h2 hl' (by omega) (by omega) (by omega) (by omega) (by omega), hi'⟩, by dsimp only; omega, ⟨⟨rfl, rfl, rfl, rfl, rfl, rfl, rfl, rfl, rfl, trivial⟩, ⟨rfl, trivial⟩, rfl, rfl⟩⟩
   ·have hl' : lt d[mid + m - 1 - c]! d[c]! = true := by simpa using hl
    exact ⟨(i, c), ⟨hi, by dsimp only; omega, by dsimp only; omega, lo, fun x h3 h4 => by
     dsimp only at h3
     exact merge_hi hO h1 h2 hl' (by omega) h3 (by omega) (by omega) (by omega)⟩, by dsimp only; omega, ⟨⟨rfl, rfl, rfl, rfl, rfl, rfl, rfl, rfl, rfl, trivial⟩, ⟨rfl, trivial⟩, rfl, rfl⟩⟩
  obtain rfl : i = j := by omega
  obtain ⟨e, he⟩ : ∃ e, e = mid + m - i := ⟨_, rfl⟩
  have hcut : Cut lt a i m e b d := merge_cut (mid := mid) (s0 := a) (r0 := m) hO h1 h2 (by omega) (by omega) hi hj (by omega) (by omega) (by omega) (by omega) (by omega) lo hi'
  refine nEq (x := ((e : Nat) : Int)) (by rw [wrap64 (by omega) (by omega)]; omega) ?_
  refine ifd (fun k1 => ?_) (fun k1 => ?_)
  ·refine ifd (fun k2 => ?_) (fun k2 => ?_)
   ·refine cOw (rotateF_spec H hle hV (a := i) (m := m) (b := e) (by omega) (by omega) (by omega)) fun v μ' h' hle' hap hR => ?_
    obtain ⟨rfl, e2, d1, hr, hp1, rfl, hV1⟩ := hR
    obtain rfl := e2.symm
    clear hle' hap
    replace hp1 : PermIn a b d d1 := permIn_mono _ _ _ _ _ _ (by omega) (by omega) (by omega) hp1
    have w_ := merge_facts (mid := mid) h1 h2 hcut (hr) (by omega)
    obtain ⟨S, s1, s2, s3, s4⟩ := w_
    refine ifd (fun k3 => ?_) (fun k3 => ?_)
    ·refine ifd (fun k4 => ?_) (fun k4 => ?_)
     ·refine cOw (IH a i mid d1 _ (by omega) (by omega) (by omega) (by omega) hV1 hle s1 s2) fun v μ' h' hle' hap hR => ?_
      obtain ⟨rfl, e2, d4, hp4, hs4, rfl, hV4⟩ := hR
      obtain rfl := e2.symm
      clear hle' hap
      have hz4 : mid ≤ (d1).size := by rw [H.size hV1]; omega
      refine ifd (fun k5 => ?_) (fun k5 => ?_)
      ·refine ifd (fun k6 => ?_) (fun k6 => ?_)
       ·refine cOw (IH _ e b d4 _ (by omega) (by omega) (by omega) (by omega) hV4 hle (SortedIn.same s3 fun k h5 h6 => hp4.2.1 k (by omega)) (SortedIn.same s4 fun k h5 h6 => hp4.2.1 k (by omega))) fun v μ' h' hle' hap hR => ?_
        obtain ⟨rfl, e2, d5, hp5, hs5, rfl, hV5⟩ := hR
        obtain rfl := e2.symm
        clear hle' hap
        exact rPl ⟨rfl, rfl, d5, permIn_trans _ _ _ _ _ (permIn_trans _ _ _ _ _ hp1 (permIn_mono _ _ _ _ _ _ (Nat.le_refl _) (by omega) (by rw [H.size hV1]; exact hb) hp4)) (permIn_mono _ _ _ _ _ _ (by omega) (Nat.le_refl _) (by rw [H.size hV4]; exact hb) hp5), sorted_join (SortedIn.same hs4 fun k h5 h6 => hp5.2.1 k (by omega)) hs5 (Split.permR (S.permL hz4 hp4) (by rw [H.size hV4]; exact hb) hp5), rfl, hV5⟩
       ·have k7 : e = b := by omega
        exact rPl ⟨rfl, rfl, d4, (permIn_trans _ _ _ _ _ hp1 (permIn_mono _ _ _ _ _ _ (Nat.le_refl _) (by omega) (by rw [H.size hV1]; exact hb) hp4)), sorted_join hs4 (by have h := (SortedIn.same s3 fun k h5 h6 => hp4.2.1 k (by omega)); rwa [k7] at h) (S.permL hz4 hp4), rfl, hV4⟩
      ·have k7 : e = mid := by omega
       exact rPl ⟨rfl, rfl, d4, (permIn_trans _ _ _ _ _ hp1 (permIn_mono _ _ _ _ _ _ (Nat.le_refl _) (by omega) (by rw [H.size hV1]; exact hb) hp4)), sorted_join hs4 (by have h := (SortedIn.same s4 fun k h5 h6 => hp4.2.1 k (by omega)); rwa [k7] at h) (S.permL hz4 hp4), rfl, hV4⟩
     ·obtain rfl : mid = i := by omega
      refine ifd (fun k5 => ?_) (fun k5 => ?_)
      ·refine ifd (fun k6 => ?_) (fun k6 => ?_)
       ·refine cOw (IH _ e b d1 _ (by omega) (by omega) (by omega) (by omega) hV1 hle s3 s4) fun v μ' h' hle' hap hR => ?_
        obtain ⟨rfl, e2, d5, hp5, hs5, rfl, hV5⟩ := hR
        obtain rfl := e2.symm
        clear hle' hap
        exact rPl ⟨rfl, rfl, d5, permIn_trans _ _ _ _ _ hp1 (permIn_mono _ _ _ _ _ _ (by omega) (Nat.le_refl _) (by rw [H.size hV1]; exact hb) hp5), sorted_join (SortedIn.same s1 fun k h5 h6 => hp5.2.1 k (by omega)) hs5 (Split.permR S (by rw [H.size hV1]; exact hb) hp5), rfl, hV5⟩
       ·have k7 : e = b := by omega
        exact rPl ⟨rfl, rfl, d1, hp1, sorted_join s1 (by have h := s3; rwa [k7] at h) S, rfl, hV1⟩
      ·have k7 : e = mid := by omega
       exact rPl ⟨rfl, rfl, d1, hp1, sorted_join s1 (by have h := s4; rwa [k7] at h) S, rfl, hV1⟩
    ·obtain rfl : a = i := by omega
     refine ifd (fun k5 => ?_) (fun k5 => ?_)
     ·refine ifd (fun k6 => ?_) (fun k6 => ?_)
      ·refine cOw (IH _ e b d1 _ (by omega) (by omega) (by omega) (by omega) hV1 hle s3 s4) fun v μ' h' hle' hap hR => ?_
       obtain ⟨rfl, e2, d5, hp5, hs5, rfl, hV5⟩ := hR
       obtain rfl := e2.symm
       clear hle' hap
       exact rPl ⟨rfl, rfl, d5, permIn_trans _ _ _ _ _ hp1 (permIn_mono _ _ _ _ _ _ (by omega) (Nat.le_refl _) (by rw [H.size hV1]; exact hb) hp5), sorted_join (SortedIn.same s2 fun k h5 h6 => hp5.2.1 k (by omega)) hs5 (Split.permR S (by rw [H.size hV1]; exact hb) hp5), rfl, hV5⟩
      ·have k7 : e = b := by omega
       exact rPl ⟨rfl, rfl, d1, hp1, sorted_join s2 (by have h := s3; rwa [k7] at h) S, rfl, hV1⟩
     ·have k7 : e = mid := by omega
      exact rPl ⟨rfl, rfl, d1, hp1, sorted_join s2 (by have h := s4; rwa [k7] at h) S, rfl, hV1⟩
   ·have w_ := merge_facts (mid := mid) h1 h2 hcut (Rot.left (by omega) (by omega) d) (by omega)
    obtain ⟨S, s1, s2, s3, s4⟩ := w_
    refine ifd (fun k3 => ?_) (fun k3 => ?_)
    ·refine ifd (fun k4 => ?_) (fun k4 => ?_)
     ·refine cOw (IH a i mid d _ (by omega) (by omega) (by omega) (by omega) hV hle s1 s2) fun v μ' h' hle' hap hR => ?_
      obtain ⟨rfl, e2, d4, hp4, hs4, rfl, hV4⟩ := hR
      obtain rfl := e2.symm
      clear hle' hap
      have hz4 : mid ≤ (d).size := by rw [H.size hV]; omega
      refine ifd (fun k5 => ?_) (fun k5 => ?_)
      ·refine ifd (fun k6 => ?_) (fun k6 => ?_)
       ·refine cOw (IH _ e b d4 _ (by omega) (by omega) (by omega) (by omega) hV4 hle (SortedIn.same s3 fun k h5 h6 => hp4.2.1 k (by omega)) (SortedIn.same s4 fun k h5 h6 => hp4.2.1 k (by omega))) fun v μ' h' hle' hap hR => ?_
        obtain ⟨rfl, e2, d5, hp5, hs5, rfl, hV5⟩ := hR
        obtain rfl := e2.symm
        clear hle' hap
        exact rPl ⟨rfl, rfl, d5, permIn_trans _ _ _ _ _ (permIn_trans _ _ _ _ _ (permIn_refl d a b) (permIn_mono _ _ _ _ _ _ (Nat.le_refl _) (by omega) (by rw [H.size hV]; exact hb) hp4)) (permIn_mono _ _ _ _ _ _ (by omega) (Nat.le_refl _) (by rw [H.size hV4]; exact hb) hp5), sorted_join (SortedIn.same hs4 fun k h5 h6 => hp5.2.1 k (by omega)) hs5 (Split.permR (S.permL hz4 hp4) (by rw [H.size hV4]; exact hb) hp5), rfl, hV5⟩
       ·have k7 : e = b := by omega
        exact rPl ⟨rfl, rfl, d4, (permIn_trans _ _ _ _ _ (permIn_refl d a b) (permIn_mono _ _ _ _ _ _ (Nat.le_refl _) (by omega) (by rw [H.size hV]; exact hb) hp4)), sorted_join hs4 (by have h := (SortedIn.same s3 fun k h5 h6 => hp4.2.1 k (by omega)); rwa [k7] at h) (S.permL hz4 hp4), rfl, hV4⟩
      ·have k7 : e = mid := by omega
       exact rPl ⟨rfl, rfl, d4, (permIn_trans _ _ _ _ _ (permIn_refl d a b) (permIn_mono _ _ _ _ _ _ (Nat.le_refl _) (by omega) (by rw [H.size hV]; exact hb) hp4)), sorted_join hs4 (by have h := (SortedIn.same s4 fun k h5 h6 => hp4.2.1 k (by omega)); rwa [k7] at h) (S.permL hz4 hp4), rfl, hV4⟩
     ·obtain rfl : mid = i := by omega
      refine ifd (fun k5 => ?_) (fun k5 => ?_)
      ·refine ifd (fun k6 => ?_) (fun k6 => ?_)
       ·refine cOw (IH _ e b d _ (by omega) (by omega) (by omega) (by omega) hV hle s3 s4) fun v μ' h' hle' hap hR => ?_
        obtain ⟨rfl, e2, d5, hp5, hs5, rfl, hV5⟩ := hR
        obtain rfl := e2.symm
        clear hle' hap
        exact rPl ⟨rfl, rfl, d5, permIn_trans _ _ _ _ _ (permIn_refl d a b) (permIn_mono _ _ _ _ _ _ (by omega) (Nat.le_refl _) (by rw [H.size hV]; exact hb) hp5), sorted_join (SortedIn.same s1 fun k h5 h6 => hp5.2.1 k (by omega)) hs5 (Split.permR S (by rw [H.size hV]; exact hb) hp5), rfl, hV5⟩
       ·have k7 : e = b := by omega
        exact rPl ⟨rfl, rfl, d, (permIn_refl d a b), sorted_join s1 (by have h := s3; rwa [k7] at h) S, rfl, hV⟩
      ·have k7 : e = mid := by omega
       exact rPl ⟨rfl, rfl, d, (permIn_refl d a b), sorted_join s1 (by have h := s4; rwa [k7] at h) S, rfl, hV⟩
    ·obtain rfl : a = i := by omega
     refine ifd (fun k5 => ?_) (fun k5 => ?_)
     ·refine ifd (fun k6 => ?_) (fun k6 => ?_)
      ·refine cOw (IH _ e b d _ (by omega) (by omega) (by omega) (by omega) hV hle s3 s4) fun v μ' h' hle' hap hR => ?_
       obtain ⟨rfl, e2, d5, hp5, hs5, rfl, hV5⟩ := hR
       obtain rfl := e2.symm
       clear hle' hap
       exact rPl ⟨rfl, rfl, d5, permIn_trans _ _ _ _ _ (permIn_refl d a b) (permIn_mono _ _ _ _ _ _ (by omega) (Nat.le_refl _) (by rw [H.size hV]; exact hb) hp5), sorted_join (SortedIn.same s2 fun k h5 h6 => hp5.2.1 k (by omega)) hs5 (Split.permR S (by rw [H.size hV]; exact hb) hp5), rfl, hV5⟩
      ·have k7 : e = b := by omega
       exact rPl ⟨rfl, rfl, d, (permIn_refl d a b), sorted_join s2 (by have h := s3; rwa [k7] at h) S, rfl, hV⟩
     ·have k7 : e = mid := by omega
      exact rPl ⟨rfl, rfl, d, (permIn_refl d a b), sorted_join s2 (by have h := s4; rwa [k7] at h) S, rfl, hV⟩
  ·have w_ := merge_facts (mid := mid) h1 h2 hcut (Rot.right (by omega) (by omega) d) (by omega)
   obtain ⟨S, s1, s2, s3, s4⟩ := w_
   refine ifd (fun k3 => ?_) (fun k3 => ?_)
   ·refine ifd (fun k4 => ?_) (fun k4 => ?_)
    ·refine cOw (IH a i mid d _ (by omega) (by omega) (by omega) (by omega) hV hle s1 s2) fun v μ' h' hle' hap hR => ?_
     obtain ⟨rfl, e2, d4, hp4, hs4, rfl, hV4⟩ := hR
     obtain rfl := e2.symm
     clear hle' hap
     have hz4 : mid ≤ (d).size := by rw [H.size hV]; omega
     refine ifd (fun k5 => ?_) (fun k5 => ?_)
     ·refine ifd (fun k6 => ?_) (fun k6 => ?_)
      ·refine cOw (IH _ e b d4 _ (by omega) (by omega) (by omega) (by omega) hV4 hle (SortedIn.same s3 fun k h5 h6 => hp4.2.1 k (by omega)) (SortedIn.same s4 fun k h5 h6 => hp4.2.1 k (by omega))) fun v μ' h' hle' hap hR => ?_
       obtain ⟨rfl, e2, d5, hp5, hs5, rfl, hV5⟩ := hR
       obtain rfl := e2.symm
       clear hle' hap
       exact rPl ⟨rfl, rfl, d5, permIn_trans _ _ _ _ _ (permIn_trans _ _ _ _ _ (permIn_refl d a b) (permIn_mono _ _ _ _ _ _ (Nat.le_refl _) (by omega) (by rw [H.size hV]; exact hb) hp4)) (permIn_mono _ _ _ _ _ _ (by omega) (Nat.le_refl _) (by rw [H.size hV4]; exact hb) hp5), sorted_join (SortedIn.same hs4 fun k h5 h6 => hp5.2.1 k (by omega)) hs5 (Split.permR (S.permL hz4 hp4) (by rw [H.size hV4]; exact hb) hp5), rfl, hV5⟩
      ·have k7 : e = b := by omega
       exact rPl ⟨rfl, rfl, d4, (permIn_trans _ _ _ _ _ (permIn_refl d a b) (permIn_mono _ _ _ _ _ _ (Nat.le_refl _) (by omega) (by rw [H.size hV]; exact hb) hp4)), sorted_join hs4 (by have h := (SortedIn.same s3 fun k h5 h6 => hp4.2.1 k (by omega)); rwa [k7] at h) (S.permL hz4 hp4), rfl, hV4⟩
     ·have k7 : e = mid := by omega
      exact rPl ⟨rfl, rfl, d4, (permIn_trans _ _ _ _ _ (permIn_refl d a b) (permIn_mono _ _ _ _ _ _ (Nat.le_refl _) (by omega) (by rw [H.size hV]; exact hb) hp4)), sorted_join hs4 (by have h := (SortedIn.same s4 fun k h5 h6 => hp4.2.1 k (by omega)); rwa [k7] at h) (S.permL hz4 hp4), rfl, hV4⟩
    ·obtain rfl : mid = i := by omega
     refine ifd (fun k5 => ?_) (fun k5 => ?_)
     ·refine ifd (fun k6 => ?_) (fun k6 => ?_)
      ·refine cOw (IH _ e b d _ (by omega) (by omega) (by omega) (by omega) hV hle s3 s4) fun v μ' h' hle' hap hR => ?_
       obtain ⟨rfl, e2, d5, hp5, hs5, rfl, hV5⟩ := hR
       obtain rfl := e2.symm
       clear hle' hap
       exact rPl ⟨rfl, rfl, d5, permIn_trans _ _ _ _ _ (permIn_refl d a b) (permIn_mono _ _ _ _ _ _ (by omega) (Nat.le_refl _) (by rw [H.size hV]; exact hb) hp5), sorted_join (SortedIn.same s1 fun k h5 h6 => hp5.2.1 k (by omega)) hs5 (Split.permR S (by rw [H.size hV]; exact hb) hp5), rfl, hV5⟩
      ·have k7 : e = b := by omega
       exact rPl ⟨rfl, rfl, d, (permIn_refl d a b), sorted_join s1 (by have h := s3; rwa [k7] at h) S, rfl, hV⟩
     ·have k7 : e = mid := by omega
      exact rPl ⟨rfl, rfl, d, (permIn_refl d a b), sorted_join s1 (by have h := s4; rwa [k7] at h) S, rfl, hV⟩
   ·obtain rfl : a = i := by omega
    refine ifd (fun k5 => ?_) (fun k5 => ?_)
    ·refine ifd (fun k6 => ?_) (fun k6 => ?_)
     ·refine cOw (IH _ e b d _ (by omega) (by omega) (by omega) (by omega) hV hle s3 s4) fun v μ' h' hle' hap hR => ?_
      obtain ⟨rfl, e2, d5, hp5, hs5, rfl, hV5⟩ := hR
      obtain rfl := e2.symm
      clear hle' hap
      exact rPl ⟨rfl, rfl, d5, permIn_trans _ _ _ _ _ (permIn_refl d a b) (permIn_mono _ _ _ _ _ _ (by omega) (Nat.le_refl _) (by rw [H.size hV]; exact hb) hp5), sorted_join (SortedIn.same s2 fun k h5 h6 => hp5.2.1 k (by omega)) hs5 (Split.permR S (by rw [H.size hV]; exact hb) hp5), rfl, hV5⟩
     ·have k7 : e = b := by omega
      exact rPl ⟨rfl, rfl, d, (permIn_refl d a b), sorted_join s2 (by have h := s3; rwa [k7] at h) S, rfl, hV⟩
    ·have k7 : e = mid := by omega
     exact rPl ⟨rfl, rfl, d, (permIn_refl d a b), sorted_join s2 (by have h := s4; rwa [k7] at h) S, rfl, hV⟩
end
end Go.Vx
namespace Go.Vx
open Go.Proofs Classical
open Go.Sort
def Bl {α : Type} [Inhabited α] (lt : α → α → Bool) (n s : Nat) (d : Array α) : Prop := ∀ t, SortedIn lt (t * s) (min n (t * s + s)) d
section
variable {α : Type} [Inhabited α] {lt : α → α → Bool} {n s q : Nat} {d d' : Array α}
theorem SortedIn.none {a b : Nat} (h : b ≤ a) : SortedIn lt a b d := fun i j hi hij hj => by omega
theorem Bl.grow (h : ∀ t, t < q → SortedIn lt (t * s) (t * s + s) d) (p : PermIn (q * s) (q * s + s) d d') (h2 : SortedIn lt (q * s) (q * s + s) d') : ∀ t, t < q + 1 → SortedIn lt (t * s) (t * s + s) d' := fun t ht => by
 rcases Nat.eq_or_lt_of_le (Nat.le_of_lt_succ ht) with e | e
 ·rw [e]; exact h2
 ·have h3 : t * s + s ≤ q * s := by rw [← Nat.succ_mul]; exact Nat.mul_le_mul_right s e
  exact SortedIn.same (h t e) fun k h5 h6 => p.2.1 k (by omega)
theorem Bl.last (h : ∀ t, t < q → SortedIn lt (t * s) (t * s + s) d) (h1 : q * s ≤ n) (hn : n < q * s + s) (p : PermIn (q * s) n d d') (h2 : SortedIn lt (q * s) n d') : Bl lt n s d' := fun t => by
 rcases Nat.lt_trichotomy t q with e | e | e
 ·have h3 : t * s + s ≤ q * s := by rw [← Nat.succ_mul]; exact Nat.mul_le_mul_right s e
  rw [Nat.min_eq_right (by omega)]
  exact SortedIn.same (h t e) fun k h5 h6 => p.2.1 k (by omega)
 ·rw [e, Nat.min_eq_left (by omega)]; exact h2
 ·have h3 : q * s + s ≤ t * s := by rw [← Nat.succ_mul]; exact Nat.mul_le_mul_right s e
  exact SortedIn.none (by omega)
theorem twice (q s : Nat) : q * (2 * s) = 2 * q * s := by rw [← Nat.mul_assoc, Nat.mul_comm q 2]
theorem Bl.keep {a b m : Nat} (h : ∀ t, m ≤ t → SortedIn lt (t * s) (min n (t * s + s)) d) {m' : Nat} (hm : m ≤ m') (p : PermIn a b d d') (hb : b ≤ m' * s) : ∀ t, m' ≤ t → SortedIn lt (t * s) (min n (t * s + s)) d' := fun t ht =>
 SortedIn.same (h t (by omega)) fun k h5 h6 => p.2.1 k (.inr (by have := Nat.mul_le_mul_right s ht; omega))
end
section
variable {α : Type} [Inhabited α] {lf sf : FuncId} {lb sb : List Value} {n : Nat} {lt : α → α → Bool} {μ0 : Mem} {J : Array α → Mem} {V : Array α → Prop} {μ : Mem} {d0 : Array α}
set_option maxHeartbeats 1000000 in
theorem stableF_spec (H : SortBy lf sf lb sb n lt μ0 J V) (hO : SWO lt) (hle : μ0.Le μ) (hV : V d0) :
  SpecH Try.prog 115 [fdata lf sf lb sb, .int .i64 n] μ (J d0) fun v μ' h' => v = .tuple #[] ∧ μ' = μ ∧ ∃ d', PermIn 0 n d0 d' ∧ SortedIn lt 0 n d' ∧ h' = J d' ∧ V d' := by
 have hn := H.max
 refine SpecH.mk [] Try.func115 (by kernel_rfl) ?_
 intro r1
 refine lIn (fun p : Nat × Array α => p.1 * 20 ≤ n ∧ V p.2 ∧ PermIn 0 n d0 p.2 ∧ ∀ t, t < p.1 → SortedIn lt (t * 20) (t * 20 + 20) p.2)
  (fun (q, c) => ⟨[(1, .val (.int .i64 n)), (2, .loc 0 r1 0), (4, .val (.int .i64 20)), (5, .val (.int .i64 (q * 20 : Nat))), (6, .val (.int .i64 (q * 20 + 20 : Nat)))], fblk r1 lf sf lb sb, 1, μ, J c⟩) (fun p => n - p.1 * 20)
  (0, d0) ⟨by simp, hV, permIn_refl _ _ _, fun t h => by simp at h⟩ (fun (_, _) => ⟨rfl, rfl⟩) ⟨⟨rfl, rfl, rfl, rfl, rfl, trivial⟩, ⟨rfl, trivial⟩, rfl, rfl⟩ ?_
 rintro ⟨q, c⟩ ⟨hq, hs, hp, hB⟩
 dsimp only at hq hs hp hB
 have hcs := H.size hs
 refine ifd (fun h => ?_) (fun h => ?_)
 ·have hI := insertionSort_holds hO c (q * 20) (q * 20 + 20) (by omega) (by omega)
  refine cOw (insertionSortF_spec H hle hs (a := q * 20) (b := q * 20 + 20) (by omega) (by omega)) fun v μ' h' hle' hap hR => ?_
  obtain ⟨rfl, e2, rfl, hV2⟩ := hR
  obtain rfl := e2.symm
  clear hle' hap
  refine nEq (x := (((q + 1) * 20 + 20 : Nat) : Int)) (by rw [wrap64 (by omega) (by omega)]; omega) ?_
  refine ⟨(q + 1, insertionSort lt c (q * 20) (q * 20 + 20)), ⟨by dsimp only; omega, hV2, permIn_trans _ _ _ _ _ hp (permIn_mono _ _ _ _ _ _ (Nat.zero_le _) (by omega) (by omega) hI.1), Bl.grow hB hI.1 hI.2⟩, by dsimp only; omega, ⟨⟨rfl, rfl, rfl, ?_, rfl, trivial⟩, ⟨rfl, trivial⟩, rfl, rfl⟩⟩
  show some _ = some _
  rw [show (q + 1) * 20 = q * 20 + 20 by omega]
 have hI := insertionSort_holds hO c (q * 20) n (by omega) (by omega)
 refine cOw (insertionSortF_spec H hle hs (a := q * 20) (b := n) (by omega) (by omega)) fun v μ' h' hle' hap hR => ?_
 obtain ⟨rfl, e2, rfl, hV2⟩ := hR
 obtain rfl := e2.symm
 clear hle' hap
 have hp2 := permIn_trans _ _ _ _ _ hp (permIn_mono _ _ _ _ _ _ (Nat.zero_le _) (Nat.le_refl _) (by omega) hI.1)
 have hB2 : Bl lt n 20 (insertionSort lt c (q * 20) n) := Bl.last hB hq (by omega) hI.1 hI.2
 generalize insertionSort lt c (q * 20) n = d1 at *
 refine lIn (fun p : Nat × Nat × Nat × Array α => 20 ≤ p.1 ∧ p.1 ≤ 2 * n + 20 ∧ V p.2.2.2 ∧ PermIn 0 n d0 p.2.2.2 ∧ Bl lt n p.1 p.2.2.2)
  (fun (s, a, b, c) => ⟨[(1, .val (.int .i64 n)), (2, .loc 0 r1 0), (4, .val (.int .i64 s))], fblk r1 lf sf lb sb, 1, μ, J c⟩) (fun p => n - p.1)
  (20, q * 20, n, d1) ⟨Nat.le_refl _, by dsimp only; omega, hV2, hp2, hB2⟩ (fun (_, _, _, _) => ⟨rfl, rfl⟩) ⟨⟨rfl, rfl, rfl, trivial⟩, ⟨rfl, trivial⟩, rfl, rfl⟩ ?_
 clear hV2 hp2 hB2 hI hB hp hs hcs h hq
 rintro ⟨s, a, b, c⟩ ⟨hs1, hs2, hs, hp, hB⟩
 dsimp only at hs1 hs2 hs hp hB
 refine ifd (fun h => ?_) (fun h => ?_)
 ·refine nEq (x := ((2 * s : Nat) : Int)) (by rw [wrap64 (by omega) (by omega)]; omega) ?_
  refine lIn (fun p : Nat × Array α => p.1 * (2 * s) ≤ n ∧ V p.2 ∧ PermIn 0 n d0 p.2 ∧ (∀ t, t < p.1 → SortedIn lt (t * (2 * s)) (t * (2 * s) + 2 * s) p.2) ∧ ∀ t, 2 * p.1 ≤ t → SortedIn lt (t * s) (min n (t * s + s)) p.2)
   (fun (q, c) => ⟨[(1, .val (.int .i64 n)), (2, .loc 0 r1 0), (4, .val (.int .i64 s)), (5, .val (.int .i64 (q * (2 * s) : Nat))), (6, .val (.int .i64 (q * (2 * s) + 2 * s : Nat)))], fblk r1 lf sf lb sb, 1, μ, J c⟩) (fun p => n - p.1 * (2 * s))
   (0, c) ⟨by simp, hs, hp, fun t h => by simp at h, fun t _ => hB t⟩ (fun (_, _) => ⟨rfl, rfl⟩) ⟨⟨rfl, rfl, rfl, by show some _ = some _; rw [Nat.zero_mul]; rfl, by show some _ = some _; rw [Nat.zero_mul, Nat.zero_add], trivial⟩, ⟨rfl, trivial⟩, rfl, rfl⟩ ?_
  clear hp hs hB
  rintro ⟨q, c⟩ ⟨hq, hs, hp, hL, hB⟩
  dsimp only at hq hs hp hL hB
  have hcs := H.size hs
  have e1 : 2 * q * s = q * (2 * s) := (twice q s).symm
  have e2 : (2 * q + 1) * s = q * (2 * s) + s := by rw [Nat.succ_mul, e1]
  have e3 : (2 * (q + 1)) * s = q * (2 * s) + 2 * s := by rw [← twice, Nat.succ_mul]
  have e4 : (q + 1) * (2 * s) = q * (2 * s) + 2 * s := Nat.succ_mul _ _
  have b1 := hB (2 * q) (Nat.le_refl _)
  have b2 := hB (2 * q + 1) (by omega)
  rw [e1] at b1
  rw [e2] at b2
  refine ifd (fun h2 => ?_) (fun h2 => ?_)
  ·rw [Nat.min_eq_right (by omega)] at b1 b2
   refine nEq (x := ((q * (2 * s) + s : Nat) : Int)) (by rw [wrap64 (by omega) (by omega)]; omega) ?_
   refine cOw (symMergeF_spec H hO (n + 1) (q * (2 * s)) (q * (2 * s) + s) (q * (2 * s) + 2 * s) c _ (by omega) (by omega) (by omega) (by omega) hs hle b1 (by rw [show q * (2 * s) + 2 * s = q * (2 * s) + s + s by omega]; exact b2)) fun v μ' h' hle' hap hR => ?_
   obtain ⟨rfl, e2, d4, hp4, hs4, rfl, hV4⟩ := hR
   obtain rfl := e2.symm
   clear hle' hap
   refine nEq (x := ((2 * s : Nat) : Int)) (by rw [wrap64 (by omega) (by omega)]; omega) ?_
   refine nEq (x := (((q + 1) * (2 * s) + 2 * s : Nat) : Int)) (by rw [wrap64 (by omega) (by omega), e4]; omega) ?_
   refine ⟨(q + 1, d4), ⟨by dsimp only; omega, hV4, permIn_trans _ _ _ _ _ hp (permIn_mono _ _ _ _ _ _ (Nat.zero_le _) (by omega) (by omega) hp4), Bl.grow hL hp4 hs4, Bl.keep hB (by dsimp only; omega) hp4 (by dsimp only; omega)⟩, by dsimp only; omega, ⟨⟨rfl, rfl, rfl, ?_, rfl, trivial⟩, ⟨rfl, trivial⟩, rfl, rfl⟩⟩
   show some _ = some _
   rw [e4]
  ·refine nEq (x := ((q * (2 * s) + s : Nat) : Int)) (by rw [wrap64 (by omega) (by omega)]; omega) ?_
   refine ifd (fun h3 => ?_) (fun h3 => ?_)
   ·rw [Nat.min_eq_right (by omega)] at b1
    rw [Nat.min_eq_left (by omega)] at b2
    refine cOw (symMergeF_spec H hO (n + 1) (q * (2 * s)) (q * (2 * s) + s) n c _ (by omega) (by omega) (by omega) (by omega) hs hle b1 b2) fun v μ' h' hle' hap hR => ?_
    obtain ⟨rfl, e2, d4, hp4, hs4, rfl, hV4⟩ := hR
    obtain rfl := e2.symm
    clear hle' hap
    refine nEq (x := ((2 * s : Nat) : Int)) (by rw [wrap64 (by omega) (by omega)]; omega) ?_
    exact ⟨(2 * s, 0, 0, d4), ⟨by dsimp only; omega, by dsimp only; omega, hV4, permIn_trans _ _ _ _ _ hp (permIn_mono _ _ _ _ _ _ (Nat.zero_le _) (by omega) (by omega) hp4), Bl.last hL (by dsimp only; omega) (by dsimp only; omega) hp4 hs4⟩, by dsimp only; omega, ⟨⟨rfl, rfl, rfl, trivial⟩, ⟨rfl, trivial⟩, rfl, rfl⟩⟩
   ·rw [Nat.min_eq_left (by omega)] at b1
    refine nEq (x := ((2 * s : Nat) : Int)) (by rw [wrap64 (by omega) (by omega)]; omega) ?_
    exact ⟨(2 * s, 0, 0, c), ⟨by dsimp only; omega, by dsimp only; omega, hs, hp, Bl.last hL (by dsimp only; omega) (by dsimp only; omega) (permIn_refl _ _ _) b1⟩, by dsimp only; omega, ⟨⟨rfl, rfl, rfl, trivial⟩, ⟨rfl, trivial⟩, rfl, rfl⟩⟩
 ·have hz := hB 0
  rw [Nat.zero_mul, Nat.zero_add, Nat.min_eq_left (by omega)] at hz
  exact rPl ⟨rfl, rfl, c, hp, hz, rfl, hs⟩
end
section
variable {α : Type} [Inhabited α] {enc : α → Value} {μ h0 : Mem} {r : Nat} {ty t e : TypeId} {i ie : TypeInfo} {ke : Nat} {ti : TI} {rest : List Value} {d0 : Array α} {n cap : Nat} {lf : FuncId} {lb : List Value} {lt : α → α → Bool}
theorem stableF_tiny {sf : FuncId} {sb : List Value} (hn : n ≤ 1) : SpecH Try.prog 115 [fdata lf sf lb sb, .int .i64 n] μ h0 fun v μ' h' => v = .tuple #[] ∧ μ' = μ ∧ h' = h0 := by
 refine SpecH.mk [] Try.func115 (by kernel_rfl) ?_
 intro r1
 refine lIn (fun _ : Unit => True)
  (fun _ => ⟨[(1, .val (.int .i64 n)), (2, .loc 0 r1 0), (4, .val (.int .i64 20)), (5, .val (.int .i64 0)), (6, .val (.int .i64 20))], fblk r1 lf sf lb sb, 1, μ, h0⟩) (fun _ => 0)
  () trivial (fun _ => ⟨rfl, rfl⟩) ⟨⟨rfl, rfl, rfl, rfl, rfl, trivial⟩, ⟨rfl, trivial⟩, rfl, rfl⟩ ?_
 intro _ _
 refine ifd (fun h => by omega) (fun h => ?_)
 refine cOw (insertionSortF_tiny hn) fun v μ' h' hle' hap hR => ?_
 obtain ⟨rfl, e1, rfl⟩ := hR
 obtain rfl := e1.symm
 refine lIn (fun _ : Unit => True)
  (fun _ => ⟨[(1, .val (.int .i64 n)), (2, .loc 0 r1 0), (4, .val (.int .i64 20))], fblk r1 lf sf lb sb, 1, μ, h'⟩) (fun _ => 0)
  () trivial (fun _ => ⟨rfl, rfl⟩) ⟨⟨rfl, rfl, rfl, trivial⟩, ⟨rfl, trivial⟩, rfl, rfl⟩ ?_
 intro _ _
 refine ifd (fun h => by omega) (fun h => ?_)
 exact rPl ⟨rfl, rfl, rfl⟩
theorem SortStable_spec (T : SlTy t e i ie ke) (hti : TIok Try.prog e ti) (h1 : ti.agg = false → ti.size = 1) (hE : Els ti.size (d0.map enc)) (hn : d0.size = n) (hmax : n ≤ 1000000000000) (hO : SWO lt)
  (less : ∀ {μ' : Mem} {d : Array α} {i j : Nat}, μ.Le μ' → PermIn 0 n d0 d → i < n → j < n → SpecH Try.prog lf (.int .i64 i :: .int .i64 j :: lb) μ' (RowV h0 r ty rest (d.map enc)) fun v μ'' h' => v = .bool (lt d[i]! d[j]!) ∧ μ'' = μ' ∧ h' = RowV h0 r ty rest (d.map enc)) :
  SpecH Try.prog 71 [.iface t (.slice (some ⟨r, 0, none⟩) n cap), .func (.func lf) #[] lb.toArray] μ (RowV h0 r ty rest (d0.map enc)) fun v _ h' => v = .tuple #[] ∧ ∃ d', PermIn 0 n d0 d' ∧ SortedIn lt 0 n d' ∧ h' = RowV h0 r ty rest (d'.map enc) := by
 refine SpecH.mk [] Try.func71 (by kernel_rfl) ?_
 refine cPl (valueOf_spec T _ _ _) fun v μ1 hle1 hR => ?_
 obtain ⟨rv, rfl, hrv⟩ := hR
 intro r4
 have w_ := swapper_spec (μ := μ1) T (some ⟨r, 0, none⟩) (n := n) cap
 obtain ⟨k, bs, hk, hsw⟩ := w_
 refine cGv hsw ?_
 refine cGv (valueLen_spec T hrv) ?_
 by_cases h2 : 2 ≤ n
 ·have w_ := hk h2
  obtain ⟨rfl, rfl⟩ := w_
  refine cOw (stableF_spec (SortBy.row (cap := cap) hti h1 hE hn hmax less) hO hle1 (permIn_refl _ _ _)) fun v μ' h' hle hap hR => ?_
  obtain ⟨rfl, _, d', p1, p2, rfl, _⟩ := hR
  exact rPl ⟨rfl, d', p1, p2, rfl⟩
 ·refine cOw (stableF_tiny (by omega)) fun v μ' h' hle hap hR => ?_
  obtain ⟨rfl, e1, rfl⟩ := hR
  exact rPl ⟨rfl, d0, permIn_refl _ _ _, fun a b _ h3 h4 => by omega, rfl⟩
end
end Go.Vx
namespace Go.Vx
open Go.Proofs Classical
theorem cmpList_end {α : Type} {c : α → α → Int} {l m : List α} {i : Nat} (h : ¬ (i < l.length ∧ i < m.length)) (h2 : i ≤ l.length) (h3 : i ≤ m.length) (e : cmpList c (l.drop i) (m.drop i) = cmpList c l m) : cmpList c l m = cInt l.length m.length := by
 rw [← e]
 rcases Nat.lt_or_ge i l.length with k | k
 ·obtain rfl : i = m.length := by omega
  rw [List.drop_length]
  have w_ := aSo k
  obtain ⟨x, hx⟩ := w_
  rw [drop_at hx, cmpList, cInt, if_neg (by omega), decide_eq_false (by omega)]
  rfl
 ·obtain rfl : i = l.length := by omega
  rw [List.drop_length]
  rcases Nat.eq_or_lt_of_le h3 with k2 | k2
  ·rw [k2, List.drop_length, cmpList, cInt, if_pos rfl]
  ·have w_ := aSo k2
   obtain ⟨x, hx⟩ := w_
   rw [drop_at hx, cmpList, cInt, if_neg (by omega), decide_eq_true (by omega)]
   rfl
theorem lexI_ne {p q : Int} (h : p ≠ 0) : lexI p q = p := by rw [lexI, if_neg h]
theorem lexI_eq {p q : Int} (h : p = 0) : lexI p q = q := by rw [lexI, if_pos h]
section
variable {μ : Mem}
theorem orderInts_any (a b : Int) : Gives Try.prog 117 [.int .i64 a, .int .i64 b] μ (.int .i64 (cInt a b)) := by
 by_cases h : a = b
 ·rw [cInt, if_pos h]
  refine Spec.mk Try.func117 (by kernel_rfl) ?_
  refine ifd (fun h1 => by omega) (fun h1 => ?_)
  exact ifd (fun h2 => by omega) (fun h2 => rGv rfl rfl)
 ·rw [cInt, if_neg h]; exact orderInts_spec a b h
theorem orderBindings_spec {bs bt : List B} {base base2 : Option Addr} {cap cap2 : Nat} (hsl : Sl μ 5 base bs.length ((bs.map B.bd).map Bd.d)) (hsl2 : Sl μ 5 base2 bt.length ((bt.map B.bd).map Bd.d)) :
  Gives Try.prog 73 [.slice base bs.length cap, .slice base2 bt.length cap2] μ (.int .i64 (cmpB bs bt)) := by
 refine Spec.mk Try.func73 (by kernel_rfl) ?_
 have hm1 := maxLen_le hsl.max
 have hm2 := maxLen_le hsl2.max
 refine lIn (fun i : Nat => i ≤ bs.length ∧ i ≤ bt.length ∧ cmpB (bs.drop i) (bt.drop i) = cmpB bs bt)
  (fun i => ⟨[(0, .val (.slice base bs.length cap)), (1, .val (.slice base2 bt.length cap2)), (5, .val (.int .i64 i))], [], 0, μ, Mem.nil⟩) (fun i => bs.length - i)
  0 ⟨Nat.zero_le _, Nat.zero_le _, rfl⟩ (fun _ => ⟨rfl, rfl⟩) ⟨⟨rfl, rfl, rfl, trivial⟩, trivial, rfl, rfl⟩ ?_
 rintro i ⟨hi, hj, hJ⟩
 have fin : ¬ (i < bs.length ∧ i < bt.length) → cmpB bs bt = cInt bs.length bt.length := fun h => cmpList_end h hi hj hJ
 refine ifd (fun h1 => ?_) (fun h1 => ?_)
 ·refine ifd (fun h2 => ?_) (fun h2 => ?_)
  ·have w_ := aSo (l := bs) (i := i) (by omega)
   obtain ⟨x, hx⟩ := w_
   have w_ := aSo (l := bt) (i := i) (by omega)
   obtain ⟨y, hy⟩ := w_
   have w_ := B.elem hsl hx
   obtain ⟨ad, p, hel, hto⟩ := w_
   have w_ := B.elem hsl2 hy
   obtain ⟨ad2, p2, hel2, hto2⟩ := w_
   rw [drop_at hx, drop_at hy, cmpB, cmpList, B.cmp] at hJ
   refine eIn hel (eIn hel2 ?_)
   refine cGv (orderInts_any _ _) ?_
   refine ifnd (fun h3 => ?_) (fun h3 => ?_)
   ·have h4 : cInt x.var y.var ≠ 0 := h3
    rw [lexI_ne (by rw [lexI_ne h4]; exact h4), lexI_ne h4] at hJ
    exact rGv (congrArg (Value.int .i64) hJ) rfl
   ·have h4 : cInt x.var y.var = 0 := h3
    rw [lexI_eq h4] at hJ
    refine eIn hel (eIn hel2 ?_)
    refine cGv (orderTerms_spec _ _ hto hto2) ?_
    refine ifnd (fun h5 => ?_) (fun h5 => ?_)
    ·rw [lexI_ne h5] at hJ
     exact rGv (congrArg (Value.int .i64) hJ) rfl
    ·rw [lexI_eq h5] at hJ
     exact num64 (by omega) (by omega) ⟨i + 1, ⟨by omega, by omega, hJ⟩, by omega, ⟨⟨rfl, rfl, rfl, trivial⟩, trivial, rfl, rfl⟩⟩
  ·refine cGv (orderInts_any _ _) ?_
   exact rGv (by rw [fin (by omega)]) rfl
 ·refine cGv (orderInts_any _ _) ?_
  exact rGv (by rw [fin (by omega)]) rfl
end
end Go.Vx
namespace Go.Vx
open Go.Proofs Classical
def Keep (L : List (List B)) (e : List B) : Prop := ∀ d ∈ L, cmpB d e = 0 ∨ ¬ mgen d e
noncomputable def minL (L : List (List B)) : List (List B) := ascOf cmpB_ord (L.filter fun e => decide (Keep L e))
theorem minL_eq {L m : List (List B)} (hm : Asc3 cmpB m) (e : ∀ x, x ∈ m ↔ x ∈ L ∧ Keep L x) : m = minL L := ascOf_eq cmpB_ord hm fun x => by rw [e, List.mem_filter, decide_eq_true_eq]
theorem minL_mem {L : List (List B)} {x : List B} : x ∈ minL L ↔ x ∈ L ∧ Keep L x := by rw [minL, ascOf_mem, List.mem_filter, decide_eq_true_eq]
theorem map_b_bd (L : List (List B)) : (L.map dsOf).map (fun x => x.bs.map Bd.b) = L := by
 rw [List.map_map]
 refine (List.map_congr_left fun x _ => ?_).trans (List.map_id _)
 exact B.map_b x
noncomputable def minD (l : List Ds) : List Ds := if AllOk l then (minL (l.map fun x => x.bs.map Bd.b)).map dsOf else []
theorem minD_map {L : List (List B)} (h : ∀ x ∈ L, Subst x) : minD (L.map dsOf) = (minL L).map dsOf := by
 rw [minD, if_pos, map_b_bd]
 intro x hx
 have w_ := List.mem_map.1 hx
 obtain ⟨y, hy, rfl⟩ := w_
 exact (substOk_iff y).2 (h y hy)
end Go.Vx
namespace Go.Vx
open Go.Proofs Classical
section
variable {μ : Mem}
theorem dsOf_inv {e : List B} {v : Value} (h : RepV μ (dsOf e).d v) : ∃ p : Ds.P, v = .slice p.1 e.length p.2 ∧ Sl μ 5 p.1 e.length ((e.map B.bd).map Bd.d) := by
 have w_ := Ds.inv h
 obtain ⟨p, rfl, hs⟩ := w_
 have : (dsOf e).bs.length = e.length := List.length_map ..
 rw [this] at hs ⊢
 exact ⟨p, rfl, hs⟩
end
end Go.Vx
namespace Go.Vx
open Go.Proofs Classical
open Go.Sort
noncomputable abbrev El := List B × Value
noncomputable instance : Inhabited (List B) := ⟨[]⟩
theorem slDs : SlTy 40 23 Try.t40 Try.t23 23 := ⟨by kernel_rfl, by kernel_rfl, by kernel_rfl, by kernel_rfl, fun _ => by kernel_rfl, by kernel_rfl⟩
noncomputable def ltD (a b : El) : Bool := decide (cmpB a.1 b.1 < 0)
theorem swo_ltD : SWO ltD := ⟨fun x => cmpB_ord.swo.irrefl x.1, fun x y z => cmpB_ord.swo.trans x.1 y.1 z.1, fun x y z => cmpB_ord.swo.ntrans x.1 y.1 z.1⟩
def Elts (μ : Mem) (l : List El) : Prop := ∀ p ∈ l, RepV μ (dsOf p.1).d p.2
section
variable {μ h0 : Mem} {r : Nat} {ty : TypeId} {rest : List Value}
theorem Elts.mono {μ' : Mem} {l : List El} (h : Elts μ l) (hle : μ.Le μ') : Elts μ' l := fun p hp => RepV.mono hle (h p hp)
theorem Elts.els {d : Array El} (h : Elts μ d.toList) : Els 1 (d.map Prod.snd) := fun x hx => by
 simp only [Array.toList_map, List.mem_map] at hx
 obtain ⟨p, hp, rfl⟩ := hx
 have w_ := dsOf_inv (h p hp)
 obtain ⟨q, e, _⟩ := w_
 rw [e]
 exact ⟨rfl, fun u hu => by simp only [vcells, List.mem_singleton] at hu; rw [hu]; rfl⟩
theorem Elts.at {d : Array El} {n : Nat} (h : Elts μ d.toList) (hn : d.size = n) {i : Nat} (hi : i < n) : ∃ p : Ds.P, d[i]!.2 = .slice p.1 d[i]!.1.length p.2 ∧ Sl μ 5 p.1 d[i]!.1.length ((d[i]!.1.map B.bd).map Bd.d) := by
 have hm : d[i]! ∈ d.toList := by
  rw [getElem!_pos d i (by omega)]
  exact Array.getElem_mem_toList _
 exact dsOf_inv (h _ hm)
theorem rd1 {d : Array Value} (hE : Els 1 d) {i : Nat} {v : Value} {K : List Value → Prop} (hi : i < d.size) (e : d[i]! = v) (hv : vcells v = [v]) (h : K [v]) : extVC μ (RowV h0 r ty rest d) ⟨r, i * 1, none⟩ 1 K :=
 oIn [v] rfl (fun j x hx => by
  match j, hx with
  | 0, hx =>
   cases hx
   rw [Addr.add_lit', Nat.add_zero]
   have := RowV.cell (h0 := h0) (r := r) (ty := ty) (rest := rest) hE hi (c := 0) (v := v) (by rw [e, hv]; rfl)
   simpa using this) h
theorem rdE {d : Array El} {n i : Nat} {K : List Value → Prop} {p : Ds.P} (h : Elts μ d.toList) (hn : d.size = n) (hi : i < n) (e : d[i]!.2 = .slice p.1 d[i]!.1.length p.2) (k : K [.slice p.1 d[i]!.1.length p.2]) :
  extVC μ (RowV h0 r ty rest (d.map Prod.snd)) ⟨r, i * 1, none⟩ 1 K :=
 rd1 h.els (by simp; omega) (by rw [map_get (by omega)]; exact e) rfl k
theorem minLess_spec {rs n cap i j : Nat} {d : Array El} (hs : h0 rs = some (.cells #[.slice (some ⟨r, 0, none⟩) n cap] 40 (0, 0))) (hne : rs ≠ r) (hP : Elts μ d.toList) (hn : d.size = n) (hi : i < n) (hj : j < n) :
  SpecH Try.prog 72 [.int .i64 i, .int .i64 j, .pointer (some ⟨rs, 0, none⟩)] μ (RowV h0 r ty rest (d.map Prod.snd)) fun v μ' h' => v = .bool (ltD d[i]! d[j]!) ∧ μ' = μ ∧ h' = RowV h0 r ty rest (d.map Prod.snd) := by
 have hrs : RowV h0 r ty rest (d.map Prod.snd) rs = some (.cells #[.slice (some ⟨r, 0, none⟩) n cap] 40 (0, 0)) := (Mem.set_ne hne).trans hs
 have w_ := hP.at hn hi
 obtain ⟨p, e1, hs1⟩ := w_
 have w_ := hP.at hn hj
 obtain ⟨q, e2, hs2⟩ := w_
 refine SpecH.mk [] Try.func72 (by kernel_rfl) ?_
 refine oIn [.slice (some ⟨r, 0, none⟩) n cap] rfl (box_at hrs) ?_
 refine idxV i rfl hi ?_
 refine rdE hP hn hi e1 ?_
 refine oIn [.slice (some ⟨r, 0, none⟩) n cap] rfl (box_at hrs) ?_
 refine idxV j rfl hj ?_
 refine rdE hP hn hj e2 ?_
 refine cGv (orderBindings_spec hs1 hs2) ?_
 exact rPl ⟨rfl, rfl, rfl⟩
end
end Go.Vx
namespace Go.Vx
open Go.Proofs Classical
open Go.Sort
section
variable {μ : Mem}
theorem copyBindings_spec {bs : List B} {base : Option Addr} {cap : Nat} (hsl : Sl μ 5 base bs.length ((bs.map B.bd).map Bd.d)) (hn : bs.length ≤ 1000000) :
  Spec Try.prog 75 [.slice base bs.length cap] μ fun v μ' => Fresh μ μ' (.sl 5 ((bs.map B.bd).map Bd.d)) v := by
 refine Spec.mkO [6] Try.func75 (by kernel_rfl) ?_
 intro r6 hm6 ho6
 refine lIn (fun p : Nat × Nat × Nat × Nat × List Value × Mem × Mem => p.1 ≤ bs.length ∧ p.2.2.2.2.1.length = p.2.2.2.1 ∧ RowO p.2.2.2.2.2.2 p.2.1 p.2.2.1 56 5 p.2.2.2.2.1 ∧ Apart p.2.2.2.2.2.1 p.2.2.2.2.2.2 ∧ μ.Le p.2.2.2.2.2.1 ∧ Grown 5 μ p.2.2.2.2.2.1 (((bs.take p.1).map B.bd).map Bd.d) p.2.2.2.2.1)
  (fun (i, b, c, m, ys, μ', h) => ⟨[(3, .val (.slice (some ⟨b, 0, none⟩) m c)), (7, .val (.slice base bs.length cap)), (8, .val (.int .i64 bs.length)), (9, .val (.int .i64 i))], [], 0, μ', h⟩) (fun p => bs.length - p.1)
  (0, r6, 0, 0, [], μ, _) ⟨by simp, rfl, ⟨[], Mem.set_at _ _ _, by simp, by simp, by simp, rfl, rfl⟩, (apart_nil μ).set hm6, Mem.Le.refl _, Grown.nil _ _ _⟩ (fun (_, _, _, _, _, _, _) => ⟨rfl, rfl⟩) ⟨⟨rfl, rfl, rfl, rfl, trivial⟩, trivial, rfl, rfl⟩ ?_
 clear hm6 ho6
 rintro ⟨i, b, c, m, ys, μ', h⟩ ⟨hi, hm, hb, hap, hle, hgr⟩
 dsimp only at hi hm hb hap hle hgr
 have hyl := hgr.len
 simp only [List.length_map, List.length_take] at hyl
 refine ifd (fun hlt => ?_) (fun hlt => ?_)
 ·have w_ := aSo (l := bs) (i := i) (by omega)
  obtain ⟨x, hx⟩ := w_
  have w_ := B.elem (hsl.mono hle) hx
  obtain ⟨ad, p, hel, hto⟩ := w_
  refine eIn hel ?_
  intro r5
  refine cDa hap (copyTerm_spec x.to hto) fun v1 μ1 hle1 hap1 hR => ?_
  have w_ := Tm.invV hR.rep
  obtain ⟨q, rfl⟩ := w_
  intro r20
  refine app_intro ys hm hb ?_ ?_ fun b' c' o hrow hor => ?_
  ·show (m + 1) * 64 ≤ _; omega
  ·exact Nat.le_trans (m := 100000000) (show m + 1 ≤ _ by omega) (by decide)
  refine num64 (by omega) (by omega) ⟨(i + 1, b', c', m + 1, _, μ1, _), ⟨by dsimp only; omega, by dsimp only; rw [List.length_append, hm]; rfl, hrow, hap1.set (apartB hb hap1 hor), hle.trans hle1, ?_⟩, by dsimp only; omega, ⟨⟨rfl, rfl, rfl, rfl, trivial⟩, trivial, rfl, rfl⟩⟩
  dsimp only
  rw [List.take_add_one, hx, Option.toList_some]
  simp only [List.map_append, List.map_cons, List.map_nil]
  exact hgr.snoc hle (Fresh.bd hR hle1) hle1 (Bd.d_n _)
 ·obtain rfl : i = bs.length := by omega
  rw [List.take_length] at hgr
  refine ret_own _ Mem.nil (Parts.nil_right _) ?_
  obtain ⟨cs, hcell, hlen0, hcap, hone, hcs, htake⟩ := hb
  have hb2 : μ' b = none := by
   cases e : μ' b with
   | none => rfl
   | some o => have := hap b (by simp [e]); rw [hcell] at this; cases this
  have hrow : RowAt (μ'.join h) (some b) c 5 ys := ⟨hlen0, hone, _, _, by rw [Mem.join_get, hb2]; exact hcell, by simpa using hcs, by simpa using htake⟩
  subst hm
  exact hgr.fresh hle (Mem.le_join _ _) (fun r e => by cases e; exact hb2) hrow (Nat.le_trans (m := 100000000) (by omega) (by decide))
theorem Rows.elts : ∀ {L : List (List B)} {vs : List Value}, Rows μ 1 ((L.map dsOf).map Ds.d) vs → Elts μ (L.zip vs)
 | [], _, _ => fun p hp => by simp at hp
 | x :: L, _, .cons h _ r => fun p hp => by
  rcases List.mem_cons.1 hp with rfl | hp
  ·exact h
  ·exact Rows.elts r p hp
theorem Elts.perm {l m : List El} (h : Elts μ l) (p : m.Perm l) : Elts μ m := fun q hq => h q (p.mem_iff.1 hq)
theorem keep_perm {L S : List (List B)} (h : S.Perm L) (e : List B) : Keep S e ↔ Keep L e := ⟨fun k d hd => k d (h.mem_iff.2 hd), fun k d hd => k d (h.mem_iff.1 hd)⟩
theorem sorted_new {S : List (List B)} (hS : ∀ (a b : Nat) x y, a < b → S[a]? = some x → S[b]? = some y → ¬ cmpB y x < 0) {i : Nat} {e y : List B} (hi : S[i + 1]? = some e) (hy : S[i]? = some y) (hne : cmpB y e ≠ 0) : ∀ x ∈ S.take (i + 1), cmpB x e < 0 := by
 have h1 : cmpB y e < 0 := cmpB_ord.ge_pos (hS i (i + 1) y e (by omega) hy hi) (cmpB_ord.ne_comm hne)
 intro x hx
 have w_ := List.mem_iff_getElem?.1 hx
 obtain ⟨t, ht⟩ := w_
 rw [List.getElem?_take] at ht
 split at ht
 ·rename_i hlt
  refine cmpB_ord.le_lt ?_ h1
  rcases Nat.lt_or_ge t i with k | k
  ·exact hS t i x y k ht hy
  ·obtain rfl : t = i := by omega
   rw [hy] at ht; cases ht
   exact cmpB_ord.irrefl _
 ·cases ht
theorem nil_fresh {μ' : Mem} : Fresh μ μ' (.sl 1 (([] : List Ds).map Ds.d)) (.slice none 0 0) := ⟨Mem.nil, Own.nilSl 1, (fun _ _ h => nomatch h), fun _ h => absurd rfl h⟩
end
end Go.Vx
namespace Go.Vx
open Go.Proofs Classical
open Go.Sort
section
variable {μ : Mem}
set_option maxHeartbeats 8000000 in
theorem impl_MinimalDisequalities_spec {l : List Ds} {base : Option Addr} {cap : Nat} (hr : RepV μ (.sl 1 (l.map Ds.d)) (.slice base l.length cap)) (hn : l.length ≤ 10000000) :
  Spec Try.prog 23 [.slice base l.length cap] μ fun v μ' => Fresh μ μ' (.sl 1 ((minD l).map Ds.d)) v := by
 have hsl : Sl μ 1 base l.length (l.map Ds.d) := by
  have w_ := Rep.sl hr
  obtain ⟨b', c', e1, hs⟩ := w_
  have w_ := Value.slice.inj e1
  obtain ⟨rfl, _, _⟩ := w_
  simpa using hs
 refine Spec.mkO [5, 22] Try.func23 (by kernel_rfl) ?_
 refine lIn (fun i : Nat => i ≤ l.length ∧ ∀ (j : Nat) x, j < i → l[j]? = some x → substOk x.bs)
  (fun i => ⟨[(0, .val (.slice base l.length cap)), (12, .val (.slice base l.length cap)), (13, .val (.int .i64 l.length)), (14, .val (.int .i64 i))], [], 0, μ, Mem.nil⟩) (fun i => l.length - i)
  0 ⟨Nat.zero_le _, fun j x h => by omega⟩ (fun _ => ⟨rfl, rfl⟩) ⟨⟨rfl, rfl, rfl, rfl, trivial⟩, trivial, rfl, rfl⟩ ?_
 rintro i ⟨hi, hall⟩
 refine ifd (fun h => ?_) (fun h => ?_)
 ·have w_ := aSo (l := l) (i := i) (by omega)
  obtain ⟨x, hx⟩ := w_
  have w_ := Ds.elem hsl hx
  obtain ⟨ad, p, hel, hrx⟩ := w_
  have w_ := Ds.inv hrx
  obtain ⟨p', e1, hs⟩ := w_
  have w_ := Value.slice.inj e1
  obtain ⟨e2, _, e3⟩ := w_
  rw [← e2] at hs
  refine eIn hel ?_
  refine cGv (impl_SubstOk_spec hs) ?_
  refine ifnd (fun hb => rPl ?_) (fun hb => ?_)
  ·rw [minD, if_neg fun k => hb (k x (mAt hx))]
   exact nil_fresh
  ·refine num64 (by omega) (by omega) ⟨i + 1, ⟨by omega, fun j y hj hy => ?_⟩, by omega, ⟨⟨rfl, rfl, rfl, rfl, trivial⟩, trivial, rfl, rfl⟩⟩
   rcases Nat.lt_or_ge j i with h6 | h6
   ·exact hall j y h6 hy
   ·obtain rfl : j = i := by omega
    rw [hx] at hy; cases hy; exact hb
 obtain rfl : i = l.length := by omega
 have hok : AllOk l := fun x hx => by
  have w_ := List.mem_iff_getElem?.1 hx
  obtain ⟨j, hj⟩ := w_
  exact hall j x (List.getElem?_eq_some_iff.1 hj).1 hj
 obtain ⟨L, rfl, hL⟩ := hok.lift
 clear hall h hi hok
 rw [minD_map hL]
 rw [List.length_map] at hr hn hsl ⊢
 have w_ := Rep.srcAll hr
 obtain ⟨vs, hrows, hvl, hsrc⟩ := w_
 intro r22 hm22 ho22
 refine src_intro _ hsrc ?_
 refine app_intro [] rfl ⟨[], Mem.set_at _ _ _, by simp, by simp, by simp, rfl, rfl⟩ ?_ ?_ fun b c o hrow hor => ?_
 ·show (0 + _) * 24 ≤ _; simp; omega
 ·exact Nat.le_trans (m := 2000000000) (by simp; omega) (by decide)
 generalize hH1 : Mem.set (Mem.set _ r22 _) b o = H1
 have hB1 : RowO H1 b c 23 1 vs := by rw [← hH1]; exact hrow
 have hap1 : Apart μ H1 := by
  rw [← hH1]
  refine ((apart_nil μ).set hm22).set ?_
  rcases hor with rfl | h
  ·exact hm22
  ·exact h.2
 clear hrow hor hH1 hm22 ho22
 have hN : 0 + vs.length = L.length := by omega
 rw [hN]
 intro r5 hm5 ho5
 refine sIn [.slice none 0 0] 40 (Mem.set_at _ _ _) rfl (Nat.le_refl _) ?_
 obtain ⟨cs, hcell, hlen0, hcap, hone, hcs, htake⟩ := hB1
 obtain ⟨rest, rfl⟩ : ∃ rest, cs = vs.flatMap vcells ++ rest := by
  refine ⟨cs.drop (vs.length * 1), ?_⟩
  conv => lhs; rw [← List.take_append_drop (vs.length * 1) cs, htake]
 have hne : r5 ≠ b := fun e => by
  have h5 : H1 r5 = none := ho5
  rw [e, hcell] at h5; cases h5
 obtain ⟨h0, hh0, hsplit⟩ : ∃ h0 : Mem, h0 r5 = some (.cells #[.slice (some ⟨b, 0, none⟩) L.length c] 40 (0, 0)) ∧ ((H1.set r5 (.cells #[.slice none 0 0] 40 (0, 0))).set r5 (.cells #[.slice (some ⟨b, 0, none⟩) L.length c] 40 (0, 0))) = RowV h0 b 23 rest vs.toArray := by
  refine ⟨fun k => if k = b then none else ((H1.set r5 (.cells #[.slice none 0 0] 40 (0, 0))).set r5 (.cells #[.slice (some ⟨b, 0, none⟩) L.length c] 40 (0, 0))) k, by simp only [if_neg hne]; exact Mem.set_at _ _ _, funext fun k => ?_⟩
  rw [RowV]
  by_cases e : k = b
  ·subst e; rw [Mem.set_ne (Ne.symm hne), Mem.set_ne (Ne.symm hne), hcell, Mem.set_at]
  ·conv => rhs; rw [Mem.set_ne e]
   rw [if_neg e]
 have hap2 : Apart μ (RowV h0 b 23 rest vs.toArray) := by
  rw [← hsplit]
  exact (hap1.set hm5).set hm5
 have hP0 : Elts μ (L.zip vs) := Rows.elts hrows
 have e2 : (L.zip vs).map Prod.snd = vs := List.map_snd_zip (by omega)
 have e1 : (L.zip vs).map Prod.fst = L := List.map_fst_zip (by omega)
 have ea : vs.toArray = (L.zip vs).toArray.map Prod.snd := by simp [e2]
 have hzn : (L.zip vs).toArray.size = L.length := by simp; omega
 have hspec := SortStable_spec (μ := μ) (h0 := h0) (r := b) (ty := 23) (rest := rest) (cap := c) (d0 := (L.zip vs).toArray) (lf := 72) (lb := [.pointer (some ⟨r5, 0, none⟩)]) (enc := Prod.snd) slDs (ttok.get rfl) (fun _ => rfl) (Elts.els (μ := μ) (by simpa using hP0)) hzn (by omega) swo_ltD
  fun {μ' d i j} hle' hV hi hj => minLess_spec hh0 hne (Elts.perm (Elts.mono (by simpa using hP0) hle') (permIn_list hzn hV)) (hV.1.trans hzn) hi hj
 rw [← ea, ← hsplit] at hspec
 refine oIn [.slice (some ⟨b, 0, none⟩) L.length c] rfl (box_at (Mem.set_at _ _ _)) ?_
 refine cOw hspec fun v μ2 h2 hle2 hap3 hR => ?_
 obtain ⟨rfl, d', p1, p2, rfl⟩ := hR
 have hdn : d'.size = L.length := p1.1.trans hzn
 have hpd := permIn_list hzn p1
 have hP2 : Elts μ2 d'.toList := Elts.perm (Elts.mono (by simpa using hP0) hle2) hpd
 obtain ⟨S, hS⟩ : ∃ S, S = d'.toList.map Prod.fst := ⟨_, rfl⟩
 have hSp : S.Perm L := by
  rw [hS]
  conv => rhs; rw [← e1]
  simpa using hpd.map Prod.fst
 have hSl : S.length = L.length := hSp.length_eq
 have hSat : ∀ i, i < L.length → S[i]? = some d'[i]!.1 := fun i hi => by
  rw [hS, List.getElem?_map, getElem!_pos d' i (by omega), Array.getElem?_toList, Array.getElem?_eq_getElem (by omega)]
  rfl
 have hSS : ∀ (a b : Nat) x y, a < b → S[a]? = some x → S[b]? = some y → ¬ cmpB y x < 0 := fun a b' x y hab hx hy => by
  have hb' := (List.getElem?_eq_some_iff.1 hy).1
  have h3 := p2 a b' (Nat.zero_le _) hab (by omega)
  have h4 := hSat a (by omega)
  have h5 := hSat b' (by omega)
  rw [hx] at h4; rw [hy] at h5
  cases h4; cases h5
  simpa [ltD] using h3
 have hSok : ∀ x ∈ S, Subst x := fun x hx => hL x (hSp.mem_iff.1 hx)
 have hrs : RowV h0 b 23 rest (d'.map Prod.snd) r5 = some (.cells #[.slice (some ⟨b, 0, none⟩) L.length c] 40 (0, 0)) := (Mem.set_ne hne).trans hh0
 clear hspec hsplit hcell hap2 ho5 hm5 hap1 p1 hpd ea htake hcs hone hcap hlen0 hP0
 generalize hHH : RowV h0 b 23 rest (d'.map Prod.snd) = HH at *
 intro r29
 refine oIn [.slice (some ⟨b, 0, none⟩) L.length c] rfl (box_at hrs) ?_
 refine lIn (fun p : Nat × List (List B) × Option Nat × Nat × List Value × Mem => p.1 ≤ L.length ∧ μ2.Le p.2.2.2.2.2 ∧ Apart p.2.2.2.2.2 HH ∧ Grown 1 μ p.2.2.2.2.2 ((p.2.1.map dsOf).map Ds.d) p.2.2.2.2.1 ∧ Asc3 cmpB p.2.1 ∧ p.2.1.length ≤ p.1 ∧ ∀ x, x ∈ p.2.1 ↔ x ∈ S.take p.1 ∧ Keep S x)
  (fun (i, acc, b', c', ys, μ') => ⟨[(5, .val (.pointer (some ⟨r5, 0, none⟩))), (6, .row 0 b' ys.length c'), (30, .val (.slice (some ⟨b, 0, none⟩) L.length c)), (31, .val (.int .i64 L.length)), (32, .val (.int .i64 i))], [(0, some (.row b' c' 23 1 ys))], 1, μ', HH⟩) (fun p => L.length - p.1)
  (0, [], some r29, 0, [], μ2) ⟨Nat.zero_le _, Mem.Le.refl _, hap3, Grown.nil _ _ _, List.Pairwise.nil, Nat.le_refl _, by simp⟩ (fun (_, _, _, _, _, _) => ⟨rfl, rfl⟩) ⟨⟨rfl, rfl, rfl, rfl, rfl, trivial⟩, ⟨rfl, trivial⟩, rfl, rfl⟩ ?_
 rintro ⟨i, acc, b', c', ys, μ'⟩ ⟨hi, hle, hap, hgr, hasc, hlen, hmem⟩
 dsimp only at hi hle hap hgr hasc hlen hmem
 have hyl := hgr.len
 simp only [List.length_map] at hyl
 have hP := hP2.mono hle
 refine ifd (fun hlt => ?_) (fun hlt => ?_)
 rotate_left
 ·obtain rfl : i = L.length := by omega
  rw [← hSl, List.take_length] at hmem
  have e : acc = minL L := minL_eq hasc fun x => by rw [hmem, hSp.mem_iff, keep_perm hSp]
  refine rFz [0] fun μ3 hle3 hno3 hrow3 => .inl ?_
  rw [← e]
  exact hgr.fresh (hle2.trans hle) hle3 hno3 hrow3 (Nat.le_trans (m := 100000000) (by omega) (by decide))
 have hit : i < L.length := by omega
 have w_ := hP.at hdn hit
 obtain ⟨p, ee, hse⟩ := w_
 have hei := hSat i hit
 generalize hE : d'[i]!.1 = e at *
 have hSe := hSok e (mAt hei)
 have htk : ∀ x, x ∈ S.take (i + 1) ↔ x ∈ S.take i ∨ x = e := fun x => by
  rw [List.take_add_one, hei, Option.toList_some, List.mem_append, List.mem_singleton]
 have rdv : ∀ {j : Nat} {q : Ds.P} {K : List Value → Prop}, j < L.length → d'[j]!.2 = .slice q.1 d'[j]!.1.length q.2 → K [.slice q.1 d'[j]!.1.length q.2] → extVC μ' HH ⟨b, j * 1, none⟩ 1 K := fun hj e1 k => by
  rw [← hHH]; exact rdE hP hdn hj e1 k
 refine idxV i rfl hit ?_
 have hrdi : ∀ {K : List Value → Prop}, K [.slice p.1 e.length p.2] → extVC μ' HH ⟨b, i * 1, none⟩ 1 K := fun k => rdv hit (by rw [hE]; exact ee) (by rw [hE]; exact k)
 refine hrdi ?_
 have skip : e ∈ S.take i ∨ ¬ Keep S e → ∀ x, x ∈ acc ↔ x ∈ S.take (i + 1) ∧ Keep S x := fun h x => by
  rw [hmem, htk]
  constructor
  ·exact fun k => ⟨.inl k.1, k.2⟩
  ·rintro ⟨k1 | rfl, k2⟩
   ·exact ⟨k1, k2⟩
   ·exact h.elim (fun h => ⟨h, k2⟩) fun h => absurd k2 h
 refine ifd (fun h0 => ?_) (fun h0 => ?_)
 ·obtain ⟨i, rfl⟩ : ∃ k, i = k + 1 := ⟨i - 1, by omega⟩
  have hit2 : i < L.length := by omega
  have w_ := hP.at hdn hit2
  obtain ⟨q, eq, hsq⟩ := w_
  have hqi := hSat i hit2
  refine oIn [.slice (some ⟨b, 0, none⟩) L.length c] rfl (box_at hrs) ?_
  refine nEq (x := (i : Int)) (by rw [wrap64 (by omega) (by omega)]; omega) ?_
  refine idxV i rfl hit2 ?_
  refine rdv hit2 eq ?_
  refine cGv (orderBindings_spec hsq hse) ?_
  refine ifd (fun hc => ?_) (fun hc => ?_)
  ·refine num64 (by omega) (by omega) ⟨(i + 1 + 1, acc, b', c', ys, μ'), ⟨by dsimp only; omega, hle, hap, hgr, hasc, by dsimp only; omega, skip (.inl ?_)⟩, by dsimp only; omega, ⟨⟨rfl, rfl, rfl, rfl, rfl, trivial⟩, ⟨rfl, trivial⟩, rfl, rfl⟩⟩
   rw [← (cmpB_ord.zero _ _).1 hc, List.take_add_one, hqi]
   simp
  ·have hnew : ∀ x ∈ S.take (i + 1), cmpB x e < 0 := sorted_new hSS hei hqi hc
   generalize i + 1 = i at *
   refine oIn [.slice (some ⟨b, 0, none⟩) L.length c] rfl (box_at hrs) ?_
   refine lIn (fun q : Nat × Bool => q.1 ≤ L.length ∧ (q.2 = true ↔ ∀ (t : Nat) d, t < q.1 → S[t]? = some d → cmpB d e = 0 ∨ ¬ mgen d e))
    (fun (j, kb) => ⟨[(5, .val (.pointer (some ⟨r5, 0, none⟩))), (6, .row 0 b' ys.length c'), (8, .val (.slice p.1 e.length p.2)), (9, .val (.bool kb)), (30, .val (.slice (some ⟨b, 0, none⟩) L.length c)), (31, .val (.int .i64 L.length)), (32, .val (.int .i64 i)), (49, .val (.slice (some ⟨b, 0, none⟩) L.length c)), (50, .val (.int .i64 L.length)), (51, .val (.int .i64 j))], [(0, some (.row b' c' 23 1 ys))], 1, μ', HH⟩) (fun q => L.length - q.1)
    (0, true) ⟨Nat.zero_le _, by simp⟩ (fun (_, _) => ⟨rfl, rfl⟩) ⟨⟨rfl, rfl, rfl, rfl, rfl, rfl, rfl, rfl, rfl, rfl, trivial⟩, ⟨rfl, trivial⟩, rfl, rfl⟩ ?_
   rintro ⟨j, kb⟩ ⟨hj, hkb⟩
   dsimp only at hj hkb
   refine ifd (fun hlt2 => ?_) (fun hlt2 => ?_)
   ·have hjt : j < L.length := by omega
    have w_ := hP.at hdn hjt
    obtain ⟨q, eq, hsq⟩ := w_
    have hqj := hSat j hjt
    have step : (∀ (t : Nat) d, t < j + 1 → S[t]? = some d → cmpB d e = 0 ∨ ¬ mgen d e) ↔ (∀ (t : Nat) d, t < j → S[t]? = some d → cmpB d e = 0 ∨ ¬ mgen d e) ∧ (cmpB d'[j]!.1 e = 0 ∨ ¬ mgen d'[j]!.1 e) := by
     constructor
     ·exact fun h => ⟨fun t d ht => h t d (by omega), h j _ (by omega) hqj⟩
     ·rintro ⟨h1, h2⟩ t d ht hd
      rcases Nat.lt_or_ge t j with h6 | h6
      ·exact h1 t d h6 hd
      ·obtain rfl : t = j := by omega
       rw [hqj] at hd; cases hd; exact h2
    refine idxV j rfl hjt ?_
    refine rdv hjt eq ?_
    refine cGv (orderBindings_spec hsq hse) ?_
    refine ifnd (fun hc => ?_) (fun hc => ?_)
    ·refine cGv (moreGeneral_spec hsq hse (Nat.le_trans (hSok _ (mAt hqj)).vals.len (by decide)) hSe.vals) ?_
     refine ifd (fun hg => ?_) (fun hg => ?_)
     ·exact num64 (by omega) (by omega) ⟨(j + 1, false), ⟨by dsimp only; omega, by dsimp only; rw [step]; exact ⟨(fun h => nomatch h), fun h => absurd hg (h.2.resolve_left hc)⟩⟩, by dsimp only; omega, ⟨⟨rfl, rfl, rfl, rfl, rfl, rfl, rfl, rfl, rfl, rfl, trivial⟩, ⟨rfl, trivial⟩, rfl, rfl⟩⟩
     ·exact num64 (by omega) (by omega) ⟨(j + 1, kb), ⟨by dsimp only; omega, by dsimp only; rw [step, hkb]; exact ⟨fun h => ⟨h, .inr hg⟩, fun h => h.1⟩⟩, by dsimp only; omega, ⟨⟨rfl, rfl, rfl, rfl, rfl, rfl, rfl, rfl, rfl, rfl, trivial⟩, ⟨rfl, trivial⟩, rfl, rfl⟩⟩
    ·exact num64 (by omega) (by omega) ⟨(j + 1, kb), ⟨by dsimp only; omega, by dsimp only; rw [step, hkb]; exact ⟨fun h => ⟨h, .inl hc⟩, fun h => h.1⟩⟩, by dsimp only; omega, ⟨⟨rfl, rfl, rfl, rfl, rfl, rfl, rfl, rfl, rfl, rfl, trivial⟩, ⟨rfl, trivial⟩, rfl, rfl⟩⟩
   obtain rfl : j = L.length := by omega
   have hkeep : kb = true ↔ Keep S e := by
    rw [hkb]
    constructor
    ·intro h d hd
     have w_ := List.mem_iff_getElem?.1 hd
     obtain ⟨t, ht⟩ := w_
     exact h t d (by have := (List.getElem?_eq_some_iff.1 ht).1; omega) ht
    ·exact fun h t d _ hd => h d (mAt hd)
   clear hkb hlt2 hj
   refine iIn (fun hkt => ?_) (fun hkf => ?_)
   ·refine cDa hap (copyBindings_spec hse (Nat.le_trans hSe.vals.len (by decide))) fun v1 μ1 hle1 hapn hF => ?_
    have hF' : Fresh μ' μ1 (dsOf e).d v1 := hF
    have w_ := dsOf_inv (RepV.mono (Mem.Le.refl _) hF'.rep)
    obtain ⟨pv, rfl, _⟩ := w_
    intro r69
    refine gIn ?_ ?_ fun b9 c9 _ => ?_
    ·show (ys.length + 1) * 24 ≤ _; omega
    ·exact Nat.le_trans (m := 100000000) (show ys.length + 1 ≤ _ by omega) (by decide)
    refine num64 (by omega) (by omega) ⟨(i + 1, acc ++ [e], b9, c9, _, μ1), ⟨by dsimp only; omega, hle.trans hle1, hapn, ?_, ?_, by dsimp only; rw [List.length_append]; simp; omega, fun x => ?_⟩, by dsimp only; omega, ⟨⟨rfl, rfl, rfl, rfl, rfl, trivial⟩, ⟨rfl, trivial⟩, rfl, rfl⟩⟩
    ·dsimp only
     rw [List.map_append, List.map_append]
     exact hgr.snoc (hle2.trans hle) hF' hle1 (Ds.d_n _)
    ·dsimp only
     rw [Asc3, List.pairwise_append]
     exact ⟨hasc, List.pairwise_singleton _ _, fun x hx y hy => by rw [List.mem_singleton.1 hy]; exact hnew x ((hmem x).1 hx).1⟩
    ·dsimp only
     rw [List.mem_append, List.mem_singleton, hmem, htk]
     constructor
     ·rintro (k | rfl)
      ·exact ⟨.inl k.1, k.2⟩
      ·exact ⟨.inr rfl, hkeep.1 hkt⟩
     ·rintro ⟨k1 | rfl, k2⟩
      ·exact .inl ⟨k1, k2⟩
      ·exact .inr rfl
   ·exact num64 (by omega) (by omega) ⟨(i + 1, acc, b', c', ys, μ'), ⟨by dsimp only; omega, hle, hap, hgr, hasc, by dsimp only; omega, skip (.inr fun h => by rw [← hkeep, hkf] at h; cases h)⟩, by dsimp only; omega, ⟨⟨rfl, rfl, rfl, rfl, rfl, trivial⟩, ⟨rfl, trivial⟩, rfl, rfl⟩⟩
 ·have hi0 : i = 0 := by omega
  have hnew : ∀ x ∈ S.take i, cmpB x e < 0 := by rw [hi0]; simp
  refine oIn [.slice (some ⟨b, 0, none⟩) L.length c] rfl (box_at hrs) ?_
  refine lIn (fun q : Nat × Bool => q.1 ≤ L.length ∧ (q.2 = true ↔ ∀ (t : Nat) d, t < q.1 → S[t]? = some d → cmpB d e = 0 ∨ ¬ mgen d e))
   (fun (j, kb) => ⟨[(5, .val (.pointer (some ⟨r5, 0, none⟩))), (6, .row 0 b' ys.length c'), (8, .val (.slice p.1 e.length p.2)), (9, .val (.bool kb)), (30, .val (.slice (some ⟨b, 0, none⟩) L.length c)), (31, .val (.int .i64 L.length)), (32, .val (.int .i64 i)), (49, .val (.slice (some ⟨b, 0, none⟩) L.length c)), (50, .val (.int .i64 L.length)), (51, .val (.int .i64 j))], [(0, some (.row b' c' 23 1 ys))], 1, μ', HH⟩) (fun q => L.length - q.1)
   (0, true) ⟨Nat.zero_le _, by simp⟩ (fun (_, _) => ⟨rfl, rfl⟩) ⟨⟨rfl, rfl, rfl, rfl, rfl, rfl, rfl, rfl, rfl, rfl, trivial⟩, ⟨rfl, trivial⟩, rfl, rfl⟩ ?_
  rintro ⟨j, kb⟩ ⟨hj, hkb⟩
  dsimp only at hj hkb
  refine ifd (fun hlt2 => ?_) (fun hlt2 => ?_)
  ·have hjt : j < L.length := by omega
   have w_ := hP.at hdn hjt
   obtain ⟨q, eq, hsq⟩ := w_
   have hqj := hSat j hjt
   have step : (∀ (t : Nat) d, t < j + 1 → S[t]? = some d → cmpB d e = 0 ∨ ¬ mgen d e) ↔ (∀ (t : Nat) d, t < j → S[t]? = some d → cmpB d e = 0 ∨ ¬ mgen d e) ∧ (cmpB d'[j]!.1 e = 0 ∨ ¬ mgen d'[j]!.1 e) := by
    constructor
    ·exact fun h => ⟨fun t d ht => h t d (by omega), h j _ (by omega) hqj⟩
    ·rintro ⟨h1, h2⟩ t d ht hd
     rcases Nat.lt_or_ge t j with h6 | h6
     ·exact h1 t d h6 hd
     ·obtain rfl : t = j := by omega
      rw [hqj] at hd; cases hd; exact h2
   refine idxV j rfl hjt ?_
   refine rdv hjt eq ?_
   refine cGv (orderBindings_spec hsq hse) ?_
   refine ifnd (fun hc => ?_) (fun hc => ?_)
   ·refine cGv (moreGeneral_spec hsq hse (Nat.le_trans (hSok _ (mAt hqj)).vals.len (by decide)) hSe.vals) ?_
    refine ifd (fun hg => ?_) (fun hg => ?_)
    ·exact num64 (by omega) (by omega) ⟨(j + 1, false), ⟨by dsimp only; omega, by dsimp only; rw [step]; exact ⟨(fun h => nomatch h), fun h => absurd hg (h.2.resolve_left hc)⟩⟩, by dsimp only; omega, ⟨⟨rfl, rfl, rfl, rfl, rfl, rfl, rfl, rfl, rfl, rfl, trivial⟩, ⟨rfl, trivial⟩, rfl, rfl⟩⟩
    ·exact num64 (by omega) (by omega) ⟨(j + 1, kb), ⟨by dsimp only; omega, by dsimp only; rw [step, hkb]; exact ⟨fun h => ⟨h, .inr hg⟩, fun h => h.1⟩⟩, by dsimp only; omega, ⟨⟨rfl, rfl, rfl, rfl, rfl, rfl, rfl, rfl, rfl, rfl, trivial⟩, ⟨rfl, trivial⟩, rfl, rfl⟩⟩
   ·exact num64 (by omega) (by omega) ⟨(j + 1, kb), ⟨by dsimp only; omega, by dsimp only; rw [step, hkb]; exact ⟨fun h => ⟨h, .inl hc⟩, fun h => h.1⟩⟩, by dsimp only; omega, ⟨⟨rfl, rfl, rfl, rfl, rfl, rfl, rfl, rfl, rfl, rfl, trivial⟩, ⟨rfl, trivial⟩, rfl, rfl⟩⟩
  obtain rfl : j = L.length := by omega
  have hkeep : kb = true ↔ Keep S e := by
   rw [hkb]
   constructor
   ·intro h d hd
    have w_ := List.mem_iff_getElem?.1 hd
    obtain ⟨t, ht⟩ := w_
    exact h t d (by have := (List.getElem?_eq_some_iff.1 ht).1; omega) ht
   ·exact fun h t d _ hd => h d (mAt hd)
  clear hkb hlt2 hj
  refine iIn (fun hkt => ?_) (fun hkf => ?_)
  ·refine cDa hap (copyBindings_spec hse (Nat.le_trans hSe.vals.len (by decide))) fun v1 μ1 hle1 hapn hF => ?_
   have hF' : Fresh μ' μ1 (dsOf e).d v1 := hF
   have w_ := dsOf_inv (RepV.mono (Mem.Le.refl _) hF'.rep)
   obtain ⟨pv, rfl, _⟩ := w_
   intro r69
   refine gIn ?_ ?_ fun b9 c9 _ => ?_
   ·show (ys.length + 1) * 24 ≤ _; omega
   ·exact Nat.le_trans (m := 100000000) (show ys.length + 1 ≤ _ by omega) (by decide)
   refine num64 (by omega) (by omega) ⟨(i + 1, acc ++ [e], b9, c9, _, μ1), ⟨by dsimp only; omega, hle.trans hle1, hapn, ?_, ?_, by dsimp only; rw [List.length_append]; simp; omega, fun x => ?_⟩, by dsimp only; omega, ⟨⟨rfl, rfl, rfl, rfl, rfl, trivial⟩, ⟨rfl, trivial⟩, rfl, rfl⟩⟩
   ·dsimp only
    rw [List.map_append, List.map_append]
    exact hgr.snoc (hle2.trans hle) hF' hle1 (Ds.d_n _)
   ·dsimp only
    rw [Asc3, List.pairwise_append]
    exact ⟨hasc, List.pairwise_singleton _ _, fun x hx y hy => by rw [List.mem_singleton.1 hy]; exact hnew x ((hmem x).1 hx).1⟩
   ·dsimp only
    rw [List.mem_append, List.mem_singleton, hmem, htk]
    constructor
    ·rintro (k | rfl)
     ·exact ⟨.inl k.1, k.2⟩
     ·exact ⟨.inr rfl, hkeep.1 hkt⟩
    ·rintro ⟨k1 | rfl, k2⟩
     ·exact .inl ⟨k1, k2⟩
     ·exact .inr rfl
  ·exact num64 (by omega) (by omega) ⟨(i + 1, acc, b', c', ys, μ'), ⟨by dsimp only; omega, hle, hap, hgr, hasc, by dsimp only; omega, skip (.inr fun h => by rw [← hkeep, hkf] at h; cases h)⟩, by dsimp only; omega, ⟨⟨rfl, rfl, rfl, rfl, rfl, trivial⟩, ⟨rfl, trivial⟩, rfl, rfl⟩⟩
end
end Go.Vx
namespace Go.Vx
open Go.Proofs Classical
theorem SolL.again {bs : List B} {E : List (T × T)} (h : SolL bs E) {a b : T} (e : a.ap (asF bs) = b.ap (asF bs)) : SolL bs ((a, b) :: E) := by
 refine ⟨h.srt, h.proper, fun x hx => ?_, fun t ht => h.sol.gen t fun x hx => ht x (List.mem_cons_of_mem _ hx), h.sol.least⟩
 rcases List.mem_cons.1 hx with rfl | hx
 ·exact e
 ·exact h.sol.sol x hx
end Go.Vx
namespace Go.Vx
open Go.Proofs Classical
section
variable {c : Cl} {rank : Int → Nat} {val : Int → T}
end
section
variable {N : List Int} {P : T → Prop} {c c1 c2 : Cl} {a b : T} {o : Bool}
theorem EqR.swap (h : EqR N P c b a o c1) : EqR N P c a b o c1 := by
 cases o with
 | true => exact ⟨h.1, h.2.1, fun θ => (h.2.2.1 θ).trans ⟨fun k => ⟨k.1, k.2.symm⟩, fun k => ⟨k.1, k.2.symm⟩⟩, h.2.2.2⟩
 | false => exact fun θ k => h θ ⟨k.1, k.2.symm⟩
section
variable {x y : Int}
end
end
end Go.Vx
namespace Go.Vx
open Go.Proofs Classical
section
variable {d e f : List B}
end
section
variable {L M : List (List B)}
theorem LeastOf.again (h : LeastOf L M) {M' : List (List B)} (h' : LeastOf M M') : M' = M :=
 h'.asc.uniq cmpB_ord h.asc fun x => by
  rw [h'.mem]
  refine ⟨fun k => k.1, fun k => ⟨k, fun d hd => ?_⟩⟩
  by_cases e : d = x
  ·exact .inl e
  ·exact .inr (h.apart hd k e)
theorem LeastOf.pos (h : LeastOf L M) (hL : ∀ d ∈ L, Subst d) : 0 < M.length ↔ 0 < L.length := by
 constructor
 ·intro k
  have w_ := aSo (l := M) (i := 0) k
  obtain ⟨x, hx⟩ := w_
  exact List.length_pos_of_mem ((h.mem x).1 (mAt hx)).1
 ·intro k
  have w_ := aSo (l := L) (i := 0) k
  obtain ⟨x, hx⟩ := w_
  have w_ := h.below hL (mAt hx)
  obtain ⟨m, hm, _⟩ := w_
  exact List.length_pos_of_mem hm
end
end Go.Vx
namespace Go.Vx
open Go.Proofs Classical
theorem lvB_3 : lvB 3 = 2 := by rw [lvB, if_pos (by decide), lvB, if_neg (by decide)]
end Go.Vx
namespace Go.Vx
open Go.Proofs Classical
theorem mgen_iff {d e : List B} (hs : ∀ b ∈ d, (b.to.ap (asF e)).size ≤ 5000) : mgen d e ↔ genF d e := by
 rw [genF_iff]
 constructor
 ·intro h b hb
  obtain ⟨z, h1, h2⟩ := h b hb
  rw [subst_asF] at h1 h2
  exact (fit_some.1 h1).2.trans (fit_some.1 h2).2.symm
 ·intro h b hb
  have e1 : (T.var b.var).ap (asF e) = b.to.ap (asF e) := h b hb
  refine ⟨b.to.ap (asF e), ?_, ?_⟩
  ·rw [subst_asF, e1]; exact fit_some.2 ⟨hs b hb, rfl⟩
  ·rw [subst_asF]; exact fit_some.2 ⟨hs b hb, rfl⟩
theorem ap_small {e : List B} {t : T} {k : Nat} (hk : 1 ≤ k) (ht : t.lvs ≤ k) (he : ∀ n, (asF e n).lvs ≤ k) (hkk : k * k ≤ 2500) : (t.ap (asF e)).size ≤ 5000 := by
 have h1 := lvs_ap (s := asF e) hk t fun n _ => he n
 have h2 := (t.ap (asF e)).size_lvs
 have h3 := Nat.mul_le_mul_right k ht
 omega
theorem asF_lvs {e : List B} (hs : Srt e) {k : Nat} (hk : 1 ≤ k) (h : ∀ b ∈ e, b.to.lvs ≤ k) (n : Int) : (asF e n).lvs ≤ k := by
 cases c : sub e n with
 | none =>
  have : asF e n = .var n := by rw [asF, c]; rfl
  rw [this]; exact hk
 | some x =>
  have h1 : asF e n = x := by rw [asF, c]; rfl
  rw [h1]
  exact h _ (sub_in c)
theorem disHolds_fail {d g : List B} (hd : Subst d) (hg : Vals g) (h1 : ∀ b ∈ d, (asF g b.var).size ≤ 5000) (h2 : ∀ b ∈ d, (b.to.ap (asF g)).size ≤ 5000) : disHolds (d.map B.bd) (g.map B.bd) ↔ failF d (asF g) := by
 rw [disHolds_iff, failF, solves_eqsB]
 have e : ∀ b ∈ d, differ g b ↔ asF g b.var ≠ b.to.ap (asF g) := fun b hb => by
  constructor
  ·rintro ⟨x, y, k1, k2, k3⟩
   rw [subst_asF] at k1 k2
   have k1 := (fit_some.1 k1).2
   have k2 := (fit_some.1 k2).2
   intro k
   exact k3 (k1.symm.trans (Eq.trans k k2))
  ·intro k
   refine ⟨asF g b.var, b.to.ap (asF g), ?_, ?_, k⟩
   ·rw [subst_asF]; exact fit_some.2 ⟨h1 b hb, rfl⟩
   ·rw [subst_asF]; exact fit_some.2 ⟨h2 b hb, rfl⟩
 constructor
 ·rintro ⟨_, _, b, hb, k⟩ q
  exact (e b hb).1 k (q b hb)
 ·intro q
  refine ⟨hd, hg, ?_⟩
  refine Classical.byContradiction fun k => q fun b hb => ?_
  exact Classical.byContradiction fun k2 => k ⟨b, hb, (e b hb).2 k2⟩
end Go.Vx
namespace Go.Vx
open Go.Proofs Classical
section
variable {μ : Mem}
theorem l12Ground_spec {h : Mem} {r : Nat} (hc : Cur μ h r h) (n : Nat) (hn : n ≤ 1000) : SpecH Try.prog 52 [.pointer (some ⟨r, 0, none⟩), .int .i64 n] μ h fun v μ' h' => Cur μ' h r h' ∧ ∃ g : List B, GVals n 2 g ∧ RepV μ' (.sl 5 ((g.map B.bd).map Bd.d)) v := by
 refine SpecH.mk [] Try.func52 (by kernel_rfl) ?_
 intro r0
 refine lIn (fun p : Nat × Option Nat × Nat × List Value × List B × Mem × Mem => p.1 ≤ n ∧ μ.Le p.2.2.2.2.2.1 ∧ Cur p.2.2.2.2.2.1 h r p.2.2.2.2.2.2 ∧ GVals p.1 2 p.2.2.2.2.1 ∧ Rows p.2.2.2.2.2.1 5 ((p.2.2.2.2.1.map B.bd).map Bd.d) p.2.2.2.1)
  (fun (i, b, c, ys, _, μ', h') => ⟨[(0, .val (.pointer (some ⟨r, 0, none⟩))), (1, .val (.int .i64 n)), (5, .row 0 b ys.length c), (6, .val (.int .i64 i))], [(0, some (.row b c 56 5 ys))], 1, μ', h'⟩) (fun p => n - p.1)
  (0, some r0, 0, [], [], μ, h) ⟨Nat.zero_le _, Mem.Le.refl _, hc, GVals.nil 2, .nil⟩ (fun (_, _, _, _, _, _, _) => ⟨rfl, rfl⟩) ⟨⟨rfl, rfl, rfl, rfl, trivial⟩, ⟨rfl, trivial⟩, rfl, rfl⟩ ?_
 rintro ⟨i, b, c, ys, g, μ1, h1⟩ ⟨hi, hle1, hc1, hg, hrows⟩
 dsimp only at hi hle1 hc1 hg hrows
 have hyl := hrows.len
 rw [List.length_map, List.length_map, hg.len] at hyl
 refine ifd (fun hlt => ?_) (fun hlt => ?_)
 ·refine cOw (l02Draw_spec 0 (by decide) 3 (by decide) hc1.at) fun v μ2 h2 hle2 hap2 hR => ?_
  obtain ⟨hc2, t, ht, hd⟩ := hR
  have w_ := Tm.invV ht
  obtain ⟨q, rfl⟩ := w_
  intro r52
  refine gIn ?_ ?_ fun b' c' hb' => ?_
  ·show (ys.length + 1) * 64 ≤ _; omega
  ·exact Nat.le_trans (m := 100000000) (show ys.length + 1 ≤ _ by omega) (by decide)
  refine num64 (by omega) (by omega) ⟨(i + 1, b', c', _, g ++ [⟨i, t⟩], μ2, h2), ⟨by dsimp only; omega, hle1.trans hle2, hc1.trans hc2, hg.snoc (hd.mono (Nat.le_of_eq lvB_3)), ?_⟩, by dsimp only; omega, ⟨⟨rfl, rfl, rfl, rfl, trivial⟩, ⟨rfl, trivial⟩, rfl, rfl⟩⟩
  dsimp only
  rw [List.map_append, List.map_append]
  exact (hrows.mono hle2).append (Rows.one (RepV.bd ht) (Bd.d_n _))
 ·obtain rfl : i = n := by omega
  refine rFz [0] fun μ2 hle2 hno hat => .inl ⟨hc1.mono hle2, g, hg, ?_⟩
  exact Rows.sl hat (hrows.mono hle2) (Nat.le_trans (m := 1000) (by omega) (by decide))
end
end Go.Vx
namespace Go.Vx
open Go.Proofs Classical
theorem T.ext_args {x y : T} (h1 : x.tm.kind = y.tm.kind) (h2 : x.tm.num = y.tm.num) (h3 : x.tm.name = y.tm.name) (h4 : x.args = y.args) : x = y := by
 cases x <;> cases y <;> simp_all [T.tm, Tm.kind, Tm.num, Tm.name, T.args]
theorem list_eq_of {α : Type} {l m : List α} (hl : l.length = m.length) (h : ∀ (j : Nat) x y, l[j]? = some x → m[j]? = some y → x = y) : l = m :=
 List.ext_getElem? fun j => by
  rcases Nat.lt_or_ge j l.length with k | k
  ·have w_ := aSo (l := l) (i := j) k
   obtain ⟨x, hx⟩ := w_
   have w_ := aSo (l := m) (i := j) (by omega)
   obtain ⟨y, hy⟩ := w_
   rw [hx, hy, h j x y hx hy]
  ·rw [List.getElem?_eq_none k, List.getElem?_eq_none (by omega)]
section
variable {μ : Mem}
theorem same_spec : ∀ (x y : T) {v w : Value}, RepV μ x.tm.d v → RepV μ y.tm.d w → Gives Try.prog 17 [v, w] μ (.bool (decide (x = y))) :=
 T.ind fun x ih y v w hv hw => by
  have w_ := T.inv hv
  obtain ⟨base, cap, rfl, hsl⟩ := w_
  have w_ := T.inv hw
  obtain ⟨base2, cap2, rfl, hsl2⟩ := w_
  have hn := maxLen_le hsl.max
  refine Spec.mk Try.func17 (by kernel_rfl) ?_
  intro r1 r2
  refine ifnd (fun h1 => rGv (isF fun e => h1 (by rw [e])) rfl) (fun h1 => ?_)
  refine ifnd (fun h2 => rGv (isF fun e => h2 (by rw [e])) rfl) (fun h2 => ?_)
  refine ifnd (fun h3 => rGv (isF fun e => h3 (by rw [e])) rfl) (fun h3 => ?_)
  refine ifnd (fun h4 => rGv (isF fun e => h4 (by rw [e])) rfl) (fun h4 => ?_)
  have h4 : x.args.length = y.args.length := by omega
  refine lIn (fun i : Nat => i ≤ x.args.length ∧ ∀ j a b, j < i → x.args[j]? = some a → y.args[j]? = some b → a = b)
   (fun i => ⟨[(3, .loc 1 r2 0), (36, .val (.slice base x.args.length cap)), (37, .val (.int .i64 x.args.length)), (38, .val (.int .i64 i))], [(1, some (.cells r2 [.val (.int .i64 y.tm.kind), .val (.int .i64 y.tm.num), .val (.string y.tm.name), .val (.slice base2 y.args.length cap2)] 27))], 2, μ, Mem.nil⟩) (fun i => x.args.length - i)
   0 ⟨Nat.zero_le _, fun j a b hj => absurd hj (Nat.not_lt_zero _)⟩ (fun _ => ⟨rfl, rfl⟩) ⟨⟨rfl, rfl, rfl, rfl, trivial⟩, ⟨rfl, trivial⟩, rfl, rfl⟩ ?_
  rintro i ⟨hi, heq⟩
  refine ifd (fun h => ?_) (fun h => ?_)
  ·have w_ := aSo (l := x.args) (i := i) (by omega)
   obtain ⟨a, ha⟩ := w_
   have w_ := aSo (l := y.args) (i := i) (by omega)
   obtain ⟨b, hb⟩ := w_
   have w_ := T.arg hsl ha
   obtain ⟨ad, p, hel, hto⟩ := w_
   have w_ := T.arg hsl2 hb
   obtain ⟨ad2, p2, hel2, hto2⟩ := w_
   refine eIn hel ?_
   intro r3
   refine eIn hel2 ?_
   refine cGv (ih a (mAt ha) b hto hto2) ?_
   refine ifnd (fun h5 => rGv (isF fun e => h5 ?_) rfl) (fun h5 => ?_)
   ·subst e
    rw [ha] at hb
    exact Option.some.inj hb
   ·refine num64 (by omega) (by omega) ⟨i + 1, ⟨by omega, fun j c d hj hc hd => ?_⟩, by omega, ⟨⟨rfl, rfl, rfl, rfl, trivial⟩, ⟨rfl, trivial⟩, rfl, rfl⟩⟩
    rcases Nat.lt_or_ge j i with h6 | h6
    ·exact heq j c d h6 hc hd
    ·obtain rfl : j = i := by omega
     rw [ha] at hc
     rw [hb] at hd
     cases hc; cases hd
     exact h5
  ·obtain rfl : i = x.args.length := by omega
   refine rGv (isT (T.ext_args h1 h2 h3 (list_eq_of h4 fun j a b ha hb => ?_))) rfl
   exact heq j a b (List.getElem?_eq_some_iff.1 ha).1 ha hb
theorem binds_spec {x y : List B} {base base2 : Option Addr} {cap cap2 : Nat} (hsl : Sl μ 5 base x.length ((x.map B.bd).map Bd.d)) (hsl2 : Sl μ 5 base2 y.length ((y.map B.bd).map Bd.d)) :
  Gives Try.prog 48 [.slice base x.length cap, .slice base2 y.length cap2] μ (.bool (decide (x = y))) := by
 have hn := maxLen_le hsl.max
 refine Spec.mk Try.func48 (by kernel_rfl) ?_
 refine ifnd (fun h4 => rGv (isF fun e => h4 (by rw [e])) rfl) (fun h4 => ?_)
 have h4 : x.length = y.length := by omega
 refine lIn (fun i : Nat => i ≤ x.length ∧ ∀ j a b, j < i → x[j]? = some a → y[j]? = some b → a = b)
  (fun i => ⟨[(1, .val (.slice base2 y.length cap2)), (12, .val (.slice base x.length cap)), (13, .val (.int .i64 x.length)), (14, .val (.int .i64 i))], [], 0, μ, Mem.nil⟩) (fun i => x.length - i)
  0 ⟨Nat.zero_le _, fun j a b hj => absurd hj (Nat.not_lt_zero _)⟩ (fun _ => ⟨rfl, rfl⟩) ⟨⟨rfl, rfl, rfl, rfl, trivial⟩, trivial, rfl, rfl⟩ ?_
 rintro i ⟨hi, heq⟩
 refine ifd (fun h => ?_) (fun h => ?_)
 rotate_left
 ·obtain rfl : i = x.length := by omega
  refine rGv (isT (list_eq_of h4 fun j a b ha hb => ?_)) rfl
  exact heq j a b (List.getElem?_eq_some_iff.1 ha).1 ha hb
 have w_ := aSo (l := x) (i := i) (by omega)
 obtain ⟨a, ha⟩ := w_
 have w_ := aSo (l := y) (i := i) (by omega)
 obtain ⟨b, hb⟩ := w_
 have w_ := B.elem hsl ha
 obtain ⟨ad, p, hel, hto⟩ := w_
 have w_ := B.elem hsl2 hb
 obtain ⟨ad2, p2, hel2, hto2⟩ := w_
 refine eIn hel ?_
 intro r3
 refine eIn hel2 ?_
 refine ifnd (fun h5 => rGv (isF fun e => h5 ?_) rfl) (fun h5 => ?_)
 ·subst e
  rw [ha] at hb
  cases hb; rfl
 refine eIn hel2 ?_
 refine cGv (same_spec a.to b.to hto hto2) ?_
 refine ifnd (fun h6 => rGv (isF fun e => h6 ?_) rfl) (fun h6 => ?_)
 ·subst e
  rw [ha] at hb
  cases hb; rfl
 have hab : a = b := by
  have h5 : a.var = b.var := h5
  cases a; cases b; simp_all
 refine num64 (by omega) (by omega) ⟨i + 1, ⟨by omega, fun j c d hj hc hd => ?_⟩, by omega, ⟨⟨rfl, rfl, rfl, rfl, trivial⟩, trivial, rfl, rfl⟩⟩
 rcases Nat.lt_or_ge j i with h6 | h6
 ·exact heq j c d h6 hc hd
 ·obtain rfl : j = i := by omega
  rw [ha] at hc
  rw [hb] at hd
  cases hc; cases hd
  exact hab
theorem diseqs_spec {x y : List (List B)} {base base2 : Option Addr} {cap cap2 : Nat} (hsl : Sl μ 1 base x.length ((x.map dsOf).map Ds.d)) (hsl2 : Sl μ 1 base2 y.length ((y.map dsOf).map Ds.d)) :
  Gives Try.prog 27 [.slice base x.length cap, .slice base2 y.length cap2] μ (.bool (decide (x = y))) := by
 have hn := maxLen_le hsl.max
 refine Spec.mk Try.func27 (by kernel_rfl) ?_
 refine ifnd (fun h4 => rGv (isF fun e => h4 (by rw [e])) rfl) (fun h4 => ?_)
 have h4 : x.length = y.length := by omega
 refine lIn (fun i : Nat => i ≤ x.length ∧ ∀ j a b, j < i → x[j]? = some a → y[j]? = some b → a = b)
  (fun i => ⟨[(1, .val (.slice base2 y.length cap2)), (12, .val (.slice base x.length cap)), (13, .val (.int .i64 x.length)), (14, .val (.int .i64 i))], [], 0, μ, Mem.nil⟩) (fun i => x.length - i)
  0 ⟨Nat.zero_le _, fun j a b hj => absurd hj (Nat.not_lt_zero _)⟩ (fun _ => ⟨rfl, rfl⟩) ⟨⟨rfl, rfl, rfl, rfl, trivial⟩, trivial, rfl, rfl⟩ ?_
 rintro i ⟨hi, heq⟩
 refine ifd (fun h => ?_) (fun h => ?_)
 rotate_left
 ·obtain rfl : i = x.length := by omega
  refine rGv (isT (list_eq_of h4 fun j a b ha hb => ?_)) rfl
  exact heq j a b (List.getElem?_eq_some_iff.1 ha).1 ha hb
 have w_ := aSo (l := x) (i := i) (by omega)
 obtain ⟨a, ha⟩ := w_
 have w_ := aSo (l := y) (i := i) (by omega)
 obtain ⟨b, hb⟩ := w_
 have w_ := Ds.elem (i := i) (x := dsOf a) hsl (by simp [ha])
 obtain ⟨ad, p, hel, hto⟩ := w_
 have w_ := Ds.elem (i := i) (x := dsOf b) hsl2 (by simp [hb])
 obtain ⟨ad2, p2, hel2, hto2⟩ := w_
 have w_ := Ds.inv hto
 obtain ⟨q, e1, hs1⟩ := w_
 have w_ := Ds.inv hto2
 obtain ⟨q2, e2, hs2⟩ := w_
 simp only [Value.slice.injEq, true_and] at e1 e2
 have l1 : (dsOf a).bs.length = a.length := by simp [dsOf]
 have l2 : (dsOf b).bs.length = b.length := by simp [dsOf]
 rw [l1] at hs1
 rw [l2] at hs2
 refine eIn hel ?_
 refine eIn hel2 ?_
 have hB := binds_spec (cap := p.2) (cap2 := p2.2) hs1 hs2
 rw [← l1, ← l2, ← e1.1, ← e2.1] at hB
 refine cGv hB ?_
 refine ifnd (fun h5 => rGv (isF fun e => h5 ?_) rfl) (fun h5 => ?_)
 ·subst e
  rw [ha] at hb
  cases hb; rfl
 refine num64 (by omega) (by omega) ⟨i + 1, ⟨by omega, fun j c d hj hc hd => ?_⟩, by omega, ⟨⟨rfl, rfl, rfl, rfl, trivial⟩, trivial, rfl, rfl⟩⟩
 rcases Nat.lt_or_ge j i with h6 | h6
 ·exact heq j c d h6 hc hd
 ·obtain rfl : j = i := by omega
  rw [ha] at hc
  rw [hb] at hd
  cases hc; cases hd
  exact h5
end
end Go.Vx
namespace Go.Vx
open Go.Proofs Classical
noncomputable def solved (s free : List B) : List B := free.map fun b => ⟨b.var, match sub s b.var with | some t => t.ap (asF free) | none => b.to⟩
theorem solved_vals {s g : List B} {n : Nat} (hs : DSub 4 8 4 4 s) (h : GVals n 2 g) (hn : 4 ≤ n) : GVals n 8 (solved s g) := by
 refine ⟨by rw [solved, List.length_map, h.len], fun i b hb => ?_⟩
 rw [solved, List.getElem?_map] at hb
 cases e : g[i]? with
 | none => rw [e] at hb; cases hb
 | some c =>
  rw [e] at hb
  cases hb
  have h1 := h.get i c e
  refine ⟨h1.1, ?_⟩
  show Drawn 8 0 (match sub s c.var with | some t => t.ap (asF g) | none => c.to)
  cases e2 : sub s c.var with
  | none => exact h1.2.mono (by decide)
  | some t =>
   have h2 := hs.rng _ (sub_in e2)
   exact h2.2.2.ap (l := 2) (by decide) fun m h0 h1 => h.asF h0 (by omega)
theorem solved_asF {s g : List B} {n k : Nat} (h : GVals n k g) {m : Int} (h0 : 0 ≤ m) (h1 : m < n) : asF (solved s g) m = match sub s m with | some t => t.ap (asF g) | none => asF g m := by
 have w_ := aSo (l := g) (i := m.toNat) (by rw [h.len]; omega)
 obtain ⟨b, hb⟩ := w_
 have k1 := h.get _ b hb
 have e : b.var = m := by rw [k1.1]; omega
 have hs : Srt (solved s g) := fun i j c d hij hc hd => by
  rw [solved, List.getElem?_map] at hc hd
  cases e1 : g[i]? with
  | none => rw [e1] at hc; cases hc
  | some c' =>
   cases e2 : g[j]? with
   | none => rw [e2] at hd; cases hd
   | some d' =>
    rw [e1] at hc
    rw [e2] at hd
    cases hc; cases hd
    exact h.srt i j c' d' hij e1 e2
 have hm : B.mk b.var (match sub s b.var with | some t => t.ap (asF g) | none => b.to) ∈ solved s g := List.mem_map.2 ⟨b, mAt hb, rfl⟩
 have k2 := asF_of_mem hs hm
 have k3 := asF_of_mem h.srt (mAt hb)
 rw [e] at k2 k3
 simp only at k2
 rw [k2, k3]
theorem solved_solves {s g : List B} {n k : Nat} (hs : DSub 4 8 4 4 s) (h : GVals n k g) (hn : 8 ≤ n) : SolvesE (asF (solved s g)) (eqsB s) := by
 refine solves_eqsB.2 fun b hb => ?_
 have hr := hs.rng b hb
 rw [solved_asF h (by omega) (by omega), sub_of_mem (srt_of_pw hs.srt).pw hb]
 show b.to.ap (asF g) = b.to.ap (asF (solved s g))
 refine T.ap_congr fun m hm => ?_
 have hm := hr.2.2.low m hm
 rw [solved_asF h (by omega) (by omega)]
 cases e : sub s m with
 | none => rfl
 | some t =>
  have := hs.rng _ (sub_in e)
  simp only at this
  omega
section
variable {μ : Mem}
theorem MakeSolved_spec {base : Option Addr} {n cap : Nat} (hb : Bytes μ base n) (m : Int) (hm : m ≤ 1000000) :
  Spec Try.prog 22 [.slice base n cap, .int .i64 m] μ fun v μ' => ∃ (s g : List B) (u w : Value), v = .tuple #[u, w] ∧ DSub 4 8 4 4 s ∧ GVals 8 8 g ∧ SolvesE (asF g) (eqsB s) ∧ RepV μ' (.sl 5 ((s.map B.bd).map Bd.d)) u ∧ RepV μ' (.sl 5 ((g.map B.bd).map Bd.d)) w := by
 refine Spec.mk Try.func22 (by kernel_rfl) ?_
 refine cOw (l43New_spec hb m hm) fun v μ1 h1 hle1 hap1 hR => ?_
 obtain ⟨e, r, rfl, ho, hc1⟩ := hR
 obtain rfl := e.symm
 refine cOw (l04Draw_spec hc1.at) fun v μ2 h2 hle2 hap2 hR => ?_
 obtain ⟨hc2, s, hs, hrs⟩ := hR
 have w_ := Rep.sl hrs
 obtain ⟨bs, cs, rfl, hss⟩ := w_
 rw [List.length_map, List.length_map] at hss hrs ⊢
 refine cOw (l12Ground_spec hc2.at 8 (by decide)) fun v μ3 h3 hle3 hap3 hR => ?_
 obtain ⟨hc3, g, hg, hrg⟩ := hR
 have w_ := Rep.sl hrg
 obtain ⟨bg, cg, rfl, hsg⟩ := w_
 rw [List.length_map, List.length_map] at hsg ⊢
 replace hss := hss.mono hle3
 have hgl := hg.len
 intro r0
 refine lIn (fun p : Nat × Option Nat × Nat × List Value × Mem => p.1 ≤ g.length ∧ μ3.Le p.2.2.2.2 ∧ Rows p.2.2.2.2 5 ((((solved s g).take p.1).map B.bd).map Bd.d) p.2.2.2.1)
  (fun (i, b, c, ys, μ') => ⟨[(7, .val (.slice bs s.length cs)), (8, .val (.slice bg g.length cg)), (9, .row 0 b ys.length c), (22, .val (.slice bg g.length cg)), (23, .val (.int .i64 g.length)), (24, .val (.int .i64 i))], [(0, some (.row b c 56 5 ys))], 1, μ', h3⟩) (fun p => g.length - p.1)
  (0, some r0, 0, [], μ3) ⟨Nat.zero_le _, Mem.Le.refl _, .nil⟩ (fun (_, _, _, _, _) => ⟨rfl, rfl⟩) ⟨⟨rfl, rfl, rfl, rfl, rfl, rfl, trivial⟩, ⟨rfl, trivial⟩, rfl, rfl⟩ ?_
 rintro ⟨i, b, c, ys, μ4⟩ ⟨hi, hle4, hrows⟩
 dsimp only at hi hle4 hrows
 have hyl := hrows.len
 simp only [List.length_map, List.length_take, solved] at hyl
 refine ifd (fun hlt => ?_) (fun hlt => ?_)
 ·have w_ := aSo (l := g) (i := i) (by omega)
  obtain ⟨z, hz⟩ := w_
  have w_ := B.elem (hsg.mono hle4) hz
  obtain ⟨ad, p, hel, hto⟩ := w_
  refine eIn hel ?_
  intro r1
  refine cPl (l04Get_spec (hss.mono hle4)) fun v5 μ5 hle5 hR => ?_
  obtain ⟨hR, e5⟩ := hR
  obtain rfl := e5.symm
  have hR : optV (fun y tv => RepV μ4 y.tm.d tv) (sub s z.var) v5 := hR
  have hst : ∀ w : T, (match sub s z.var with | some t => t.ap (asF g) | none => z.to) = w → (solved s g)[i]? = some ⟨z.var, w⟩ := fun w e => by rw [solved, List.getElem?_map, hz, ← e]; rfl
  cases e : sub s z.var with
  | none =>
   rw [e] at hR hst
   obtain rfl := hR
   intro r2
   refine iIn (fun h => nomatch h) (fun _ => ?_)
   intro r3
   refine gIn ?_ ?_ fun b' c' hb' => ?_
   ·show (ys.length + 1) * 64 ≤ _; omega
   ·exact Nat.le_trans (m := 100000000) (show ys.length + 1 ≤ _ by omega) (by decide)
   refine num64 (by omega) (by omega) ⟨(i + 1, b', c', _, μ4), ⟨by dsimp only; omega, hle4, ?_⟩, by dsimp only; omega, ⟨⟨rfl, rfl, rfl, rfl, rfl, rfl, trivial⟩, ⟨rfl, trivial⟩, rfl, rfl⟩⟩
   dsimp only
   rw [List.take_add_one, hst _ rfl, Option.toList_some, List.map_append, List.map_append]
   exact (hrows.mono (Mem.Le.refl _)).append (Rows.one (RepV.bd hto) (Bd.d_n _))
  | some t =>
   rw [e] at hR hst
   obtain ⟨tv, rfl, htv⟩ := hR
   have w_ := Tm.invV htv
   obtain ⟨q, rfl⟩ := w_
   intro r2
   refine iIn (fun _ => ?_) (fun h => nomatch h)
   refine cPl (l04Put_spec t (hsg.mono hle4) htv) fun v6 μ6 hle6 hR6 => ?_
   have w_ := Tm.invV hR6
   obtain ⟨q6, rfl⟩ := w_
   have hst' : (solved s g)[i]? = some ⟨z.var, t.subst (sub g)⟩ := hst _ (by rw [subst_asF])
   intro r3
   refine gIn ?_ ?_ fun b' c' hb' => ?_
   ·show (ys.length + 1) * 64 ≤ _; omega
   ·exact Nat.le_trans (m := 100000000) (show ys.length + 1 ≤ _ by omega) (by decide)
   refine num64 (by omega) (by omega) ⟨(i + 1, b', c', _, μ6), ⟨by dsimp only; omega, hle4.trans hle6, ?_⟩, by dsimp only; omega, ⟨⟨rfl, rfl, rfl, rfl, rfl, rfl, trivial⟩, ⟨rfl, trivial⟩, rfl, rfl⟩⟩
   dsimp only
   rw [List.take_add_one, hst', Option.toList_some, List.map_append, List.map_append]
   exact (hrows.mono hle6).append (Rows.one (RepV.bd hR6) (Bd.d_n _))
 ·obtain rfl : i = g.length := by omega
  have e : (solved s g).take g.length = solved s g := List.take_of_length_le (by rw [solved, List.length_map]; exact Nat.le_refl _)
  rw [e] at hrows
  refine rFz [0] fun μ5 hle5 hno hat => .inl ⟨s, solved s g, _, _, rfl, hs, solved_vals hs hg (by omega), solved_solves hs hg (Nat.le_refl _), hrs.mono (hle3.trans (hle4.trans hle5)), ?_⟩
  exact Rows.sl hat (hrows.mono hle5) (Nat.le_trans (m := 1000) (by omega) (by decide))
end
end Go.Vx
namespace Go.Vx
open Go.Proofs Classical
theorem GVals.take {n k : Nat} {g : List B} (h : GVals n k g) {m : Nat} (hm : m ≤ n) : GVals m k (g.take m) := by
 refine ⟨by rw [List.length_take, h.len]; omega, fun i b hb => ?_⟩
 have hi := (List.getElem?_eq_some_iff.1 hb).1
 rw [List.length_take] at hi
 rw [List.getElem?_take_of_lt (by omega)] at hb
 exact h.get i b hb
section
variable {μ : Mem}
end
end Go.Vx
namespace Go.Vx
open Go.Proofs Classical
section
variable {μ : Mem}
inductive RestR (s : List B) (μ' : Mem) : Option (List B) → Value → Prop where
 | never : RestR s μ' none (.tuple #[.slice none 0 0, .int .i64 1])
 | always : RestR s μ' (some s) (.tuple #[.slice none 0 0, .int .i64 2])
 | rest (x : List B) (v : Value) (h : x ≠ s) (hv : RepV μ' (.sl 5 (((newB s x).map B.bd).map Bd.d)) v) : RestR s μ' (some x) (.tuple #[v, .int .i64 0])
theorem CompareDisequalities_spec {x y : List B} {b0 b1 : Option Addr} {c0 c1 : Nat} (hS : Subst x) (hS2 : Subst y) (hss : Sl μ 5 b0 x.length ((x.map B.bd).map Bd.d)) (hsx : Sl μ 5 b1 y.length ((y.map B.bd).map Bd.d)) :
  Gives Try.prog 26 [.slice b0 x.length c0, .slice b1 y.length c1] μ (.int .i64 (cmpB x y)) := by
 have hk := impl_SubstOk_spec (l := x.map B.bd) (cap := c0) (by rw [List.length_map]; exact hss)
 have hk2 := impl_SubstOk_spec (l := y.map B.bd) (cap := c1) (by rw [List.length_map]; exact hsx)
 rw [List.length_map] at hk hk2
 refine Spec.mk Try.func26 (by kernel_rfl) ?_
 refine cGv hk ?_
 refine ifnd (fun h => absurd ((substOk_iff x).2 hS) h) (fun _ => ?_)
 refine cGv hk2 ?_
 refine ifnd (fun h => absurd ((substOk_iff y).2 hS2) h) (fun _ => ?_)
 exact cGv (orderBindings_spec hss hsx) (rGv rfl rfl)
end
end Go.Vx
namespace Go.Vx
open Go.Proofs Classical
structure SideT (t : List B) : Prop where
 subst : Subst t
 rng : ∀ b ∈ t, 0 ≤ b.var ∧ b.var < 8 ∧ Drawn 4 4 b.to
 len : t.length ≤ 4
def QJ (t : T) : Prop := t.good ∧ ((∃ n, t = .var n) ∨ (t.lvs ≤ 4 ∧ ∀ n, t.occ n → 0 ≤ n ∧ n < 4))
theorem QJ.pair (a b : T) (h : QJ (.pair a b)) : QJ a ∧ QJ b := by
 obtain ⟨h1, ⟨n, h2⟩ | ⟨h2, h3⟩⟩ := h
 ·cases h2
 ·have h2 : a.lvs + b.lvs ≤ 4 := h2
  exact ⟨⟨h1.1, .inr ⟨by omega, fun n hn => h3 n (.inl hn)⟩⟩, ⟨h1.2, .inr ⟨by omega, fun n hn => h3 n (.inr hn)⟩⟩⟩
section
variable {μ : Mem}
end
end Go.Vx
namespace Go.Vx
open Go.Proofs Classical
def U3 (n : Int) : Prop := n = -1 ∨ n = 0 ∨ n = 1
theorem sgn_U3 (b : Bool) : U3 (sgn b) := by cases b <;> simp [sgn, U3]
theorem lexI_U3 {p q : Int} (hp : U3 p) (hq : U3 q) : U3 (lexI p q) := by
 unfold lexI; split
 ·exact hq
 ·exact hp
theorem cInt_U3 (a b : Int) : U3 (cInt a b) := by
 unfold cInt; split
 ·exact .inr (.inl rfl)
 ·exact sgn_U3 _
theorem hdCmp_U3 (a b : Tm) : U3 (hdCmp a b 0) := by
 unfold hdCmp
 repeat' (first | exact .inr (.inl rfl) | exact sgn_U3 _ | split)
theorem T.cmp_U3 : ∀ x y : T, U3 (x.cmp y)
 | .pair a b, .pair c d => by
  rw [T.cmp]
  split
  ·exact T.cmp_U3 b d
  ·exact T.cmp_U3 a c
 | .pair a b, .nil => by rw [T.cmp]; exact hdCmp_U3 _ _
 | .pair a b, .var n => by rw [T.cmp]; exact hdCmp_U3 _ _
 | .pair a b, .sym n => by rw [T.cmp]; exact hdCmp_U3 _ _
 | .pair a b, .num n => by rw [T.cmp]; exact hdCmp_U3 _ _
 | .nil, y => by rw [T.cmp]; exact hdCmp_U3 _ _
 | .var n, y => by rw [T.cmp]; exact hdCmp_U3 _ _
 | .sym n, y => by rw [T.cmp]; exact hdCmp_U3 _ _
 | .num n, y => by rw [T.cmp]; exact hdCmp_U3 _ _
theorem cmpList_U3 {α : Type} {c : α → α → Int} (h : ∀ a b, U3 (c a b)) : ∀ l m : List α, U3 (cmpList c l m)
 | [], [] => .inr (.inl rfl)
 | [], _ :: _ => .inl rfl
 | _ :: _, [] => .inr (.inr rfl)
 | a :: l, b :: m => lexI_U3 (h a b) (cmpList_U3 h l m)
theorem cmpB_neg {x y : List B} (h : cmpB x y < 0) : cmpB x y = -1 := by
 rcases cmpList_U3 (c := B.cmp) (fun a b => lexI_U3 (cInt_U3 _ _) (T.cmp_U3 _ _)) x y with k | k | k
 ·exact k
 ·have : cmpB x y = 0 := k
  omega
 ·have : cmpB x y = 1 := k
  omega
theorem DSub.tail {lo hi : Int} {k : Nat} {vars : Int} {s : List B} (h : DSub lo hi k vars s) : DSub lo hi k vars s.tail :=
 ⟨h.srt.sublist (List.tail_sublist s), fun b hb => h.rng b (List.mem_of_mem_tail hb)⟩
theorem Rep.tail1 {μ : Mem} {es n cap : Nat} {base : Option Addr} {xs : List D} (h : RepV μ (.sl es xs) (.slice base n cap)) (hp : 0 < n) : RepV μ (.sl es xs.tail) (.slice (if cap = 1 then base else base.map (·.add (1 * es))) (n - 1) (cap - 1)) := by
 obtain ⟨b2, c2, e, hl, hn, hor⟩ := h
 have e := (List.cons.inj e).1
 cases e
 have hle := hl.le
 have hmx := hl.max
 refine ⟨_, _, by rw [List.length_tail], ⟨by rw [List.length_tail]; omega, by rw [List.length_tail]; omega⟩, fun x hx => hn x (List.mem_of_mem_tail hx), ?_⟩
 rcases hor with rfl | ⟨a0, flat, rfl, hc, hr⟩
 ·exact absurd hp (Nat.lt_irrefl _)
 ·cases xs with
  | nil => exact .inl rfl
  | cons x r =>
   by_cases hr0 : r = []
   ·exact .inl hr0
   ·have hrl : 0 < r.length := List.length_pos_iff.2 hr0
    rw [List.length_cons] at hle
    obtain ⟨c1, c2, rfl, h1, h2⟩ := hr
    have hl1 := Rep.len _ _ h1
    rw [hn x (by simp)] at hl1
    rw [if_neg (by omega)]
    refine .inr ⟨a0.add (1 * es), c2, rfl, fun j v hj => ?_, h2⟩
    rw [add_add]
    have := hc (c1.length + j) v (by rw [List.getElem?_append_right (by omega), Nat.add_sub_cancel_left]; exact hj)
    rw [hl1] at this
    rw [Nat.one_mul]
    exact this
section
variable {μ : Mem}
set_option maxHeartbeats 2000000 in
theorem MakeDiseqs_spec {base : Option Addr} {n cap : Nat} (hb : Bytes μ base n) (m : Int) (hm : m ≤ 1000000) :
  Spec Try.prog 21 [.slice base n cap, .int .i64 m] μ fun v μ' => ∃ L : List (List B), (∀ d ∈ L, DSub 4 8 4 4 d) ∧ L.length ≤ 100 ∧ RepV μ' (.sl 1 ((L.map dsOf).map Ds.d)) v := by
 refine Spec.mk Try.func21 (by kernel_rfl) ?_
 refine cOw (l43New_spec hb m hm) fun v μ1 h1 hle1 hap1 hR => ?_
 obtain ⟨e, r, rfl, ho, hc1⟩ := hR
 obtain rfl := e.symm
 intro r0
 refine cOw (l01Below_spec hc1.at 4) fun v μ2 h2 hle2 hap2 hR => ?_
 obtain ⟨e, hc2, k, rfl, hk, hk4, _⟩ := hR
 obtain rfl := e.symm
 have hk4 := hk4 (by decide)
 refine lIn (fun p : Nat × Option Nat × Nat × List Value × List (List B) × Mem × Mem => p.1 ≤ 3 ∧ p.2.2.2.2.1.length + 2 * p.1 ≤ 6 ∧ μ.Le p.2.2.2.2.2.1 ∧ Cur p.2.2.2.2.2.1 h1 r p.2.2.2.2.2.2 ∧ (∀ d ∈ p.2.2.2.2.1, DSub 4 8 4 4 d) ∧ Rows p.2.2.2.2.2.1 1 ((p.2.2.2.2.1.map dsOf).map Ds.d) p.2.2.2.1)
  (fun (i, b, c, ys, _, μ', h') => ⟨[(5, .val (.pointer (some ⟨r, 0, none⟩))), (6, .row 0 b ys.length c), (7, .val (.int .i64 i))], [(0, some (.row b c 23 1 ys))], 1, μ', h'⟩) (fun p => p.1)
  (k, some r0, 0, [], [], μ, h2) ⟨by omega, by simp; omega, Mem.Le.refl _, hc2, by simp, .nil⟩ (fun (_, _, _, _, _, _, _) => ⟨rfl, rfl⟩) ⟨⟨rfl, rfl, rfl, trivial⟩, ⟨rfl, trivial⟩, rfl, rfl⟩ ?_
 clear hk4 hk hc2 hap2
 rintro ⟨i, b, c, ys, L, μ3, h3⟩ ⟨hi, hll, hle3, hc3, hL, hrows⟩
 dsimp only at hi hll hle3 hc3 hL hrows
 have hyl := hrows.len
 rw [List.length_map, List.length_map] at hyl
 refine ifd (fun hlt => ?_) (fun hlt => ?_)
 ·refine cOw (l04Draw_spec hc3.at) fun v μ4 h4 hle4 hap4 hR => ?_
  obtain ⟨hc4, s, hs, hrs⟩ := hR
  have w_ := Rep.slC hrs
  obtain ⟨bs, cs, rfl, hss, hcap⟩ := w_
  rw [List.length_map, List.length_map] at hss hcap hrs ⊢
  intro r1
  refine gIn ?_ ?_ fun b' c' hb' => ?_
  ·show (ys.length + 1) * 24 ≤ _; omega
  ·exact Nat.le_trans (m := 100000000) (show ys.length + 1 ≤ _ by omega) (by decide)
  have hrows1 : Rows μ4 1 (((L ++ [s]).map dsOf).map Ds.d) (ys ++ [.slice bs s.length cs]) := by
   rw [List.map_append, List.map_append]
   exact (hrows.mono hle4).append (Rows.one (d := (dsOf s).d) hrs (Ds.d_n _))
  have hL1 : ∀ d ∈ L ++ [s], DSub 4 8 4 4 d := fun d hd => by
   rcases List.mem_append.1 hd with hd | hd
   ·exact hL d hd
   ·rw [List.mem_singleton.1 hd]; exact hs
  refine ifd (fun h1 => ?_) (fun h1 => ?_)
  ·refine cOw (l01Once_spec hc4.at 2) fun v μ5 h5 hle5 hap5 hR => ?_
   obtain ⟨e, hc5, w, rfl⟩ := hR
   obtain rfl := e.symm
   refine iIn (fun hw => ?_) (fun hw => ?_)
   ·refine cut_intro 1 s.length rfl rfl (by omega) (by omega) ?_
    have htl := Rep.tail1 hrs (by omega)
    intro r2
    refine gIn ?_ ?_ fun b2 c2 hb2 => ?_
    ·simp only [List.length_append, List.length_cons, List.length_nil]; omega
    ·refine Nat.le_trans (m := 100000000) ?_ (by decide)
     simp only [List.length_append, List.length_cons, List.length_nil]; omega
    refine num64 (by omega) (by omega) ⟨(i - 1, b2, c2, _, L ++ [s] ++ [s.tail], μ4, h5), ⟨by dsimp only; omega, by simp only [List.length_append, List.length_cons, List.length_nil]; omega, hle3.trans hle4, hc3.trans (hc4.trans hc5), ?_, ?_⟩, by dsimp only; omega, ⟨⟨rfl, rfl, ?_, trivial⟩, ⟨rfl, trivial⟩, rfl, rfl⟩⟩
    ·intro d hd
     rcases List.mem_append.1 hd with hd | hd
     ·exact hL1 d hd
     ·rw [List.mem_singleton.1 hd]; exact hs.tail
    ·dsimp only
     rw [List.map_append, List.map_append]
     refine hrows1.append (Rows.one (d := (dsOf s.tail).d) ?_ (Ds.d_n _))
     rw [← List.map_tail, ← List.map_tail] at htl
     exact htl
    ·show some (SV.val (.int .i64 _)) = some (SV.val (.int .i64 _))
     congr 3; omega
   ·refine num64 (by omega) (by omega) ⟨(i - 1, b', c', _, L ++ [s], μ4, h5), ⟨by dsimp only; omega, by simp only [List.length_append, List.length_cons, List.length_nil]; omega, hle3.trans hle4, hc3.trans (hc4.trans hc5), hL1, hrows1⟩, by dsimp only; omega, ⟨⟨rfl, rfl, ?_, trivial⟩, ⟨rfl, trivial⟩, rfl, rfl⟩⟩
    show some (SV.val (.int .i64 _)) = some (SV.val (.int .i64 _))
    congr 3; omega
  ·refine num64 (by omega) (by omega) ⟨(i - 1, b', c', _, L ++ [s], μ4, h4), ⟨by dsimp only; omega, by simp only [List.length_append, List.length_cons, List.length_nil]; omega, hle3.trans hle4, hc3.trans hc4, hL1, hrows1⟩, by dsimp only; omega, ⟨⟨rfl, rfl, ?_, trivial⟩, ⟨rfl, trivial⟩, rfl, rfl⟩⟩
   show some (SV.val (.int .i64 _)) = some (SV.val (.int .i64 _))
   congr 3; omega
 ·refine rFz [0] fun μ4 hle4 hno hat => .inl ⟨L, hL, by omega, ?_⟩
  exact Rows.sl hat (hrows.mono hle4) (Nat.le_trans (m := 1000) (by omega) (by decide))
end
theorem DSub.lvs {s : List B} (h : DSub 4 8 4 4 s) : (∀ b ∈ s, b.to.lvs ≤ 4) ∧ ∀ n, (asF s n).lvs ≤ 4 :=
 ⟨fun b hb => (h.rng b hb).2.2.lvs, asF_lvs (srt_of_pw h.srt) (by decide) fun b hb => (h.rng b hb).2.2.lvs⟩
theorem DSub.mgen {d e : List B} (hd : DSub 4 8 4 4 d) (he : DSub 4 8 4 4 e) : mgen d e ↔ genF d e :=
 mgen_iff fun b hb => ap_small (k := 4) (by decide) (hd.lvs.1 b hb) he.lvs.2 (by decide)
theorem minL_least {L : List (List B)} (hL : ∀ d ∈ L, DSub 4 8 4 4 d) : LeastOf L (minL L) := by
 refine ⟨ascOf_asc cmpB_ord _, fun x => ?_⟩
 rw [minL_mem]
 refine and_congr_right fun hx => ?_
 constructor
 ·intro k d hd
  rcases k d hd with h | h
  ·exact .inl ((cmpB_ord.zero _ _).1 h)
  ·exact .inr fun q => h (((hL d hd).mgen (hL x hx)).2 q)
 ·intro k d hd
  rcases k d hd with h | h
  ·exact .inl ((cmpB_ord.zero _ _).2 h)
  ·exact .inr fun q => h (((hL d hd).mgen (hL x hx)).1 q)
theorem DSub.holds {d g : List B} (hd : DSub 4 8 4 4 d) (hg : GVals 8 8 g) : disHolds (d.map B.bd) (g.map B.bd) ↔ failF d (asF g) := by
 have hS := hd.subst (by decide) (by decide) (by decide) (by decide)
 refine disHolds_fail hS (hg.vals (by decide) (by decide)) (fun b hb => ?_) fun b hb => ?_
 ·have h := hd.rng b hb
  have := (hg.asF (m := b.var) (by omega) (by omega)).size
  omega
 ·have h := hd.rng b hb
  have := (h.2.2.ap (l := 8) (w := 0) (θ := asF g) (by decide) fun m h0 h1 => hg.asF h0 (by omega)).size
  omega
theorem nodup_at {α : Type} {l : List α} (h : l.Nodup) {i j : Nat} {x : α} (hi : l[i]? = some x) (hj : l[j]? = some x) : i = j :=
 (List.getElem?_inj (List.getElem?_eq_some_iff.1 hi).1 h).1 (hi.trans hj.symm)
theorem asc3_at {α : Type} {c : α → α → Int} {l : List α} (h : Asc3 c l) {i j : Nat} {x y : α} (hij : i < j) (hi : l[i]? = some x) (hj : l[j]? = some y) : c x y < 0 := by
 have w_ := List.getElem?_eq_some_iff.1 hi
 obtain ⟨h1, rfl⟩ := w_
 have w_ := List.getElem?_eq_some_iff.1 hj
 obtain ⟨h2, rfl⟩ := w_
 exact List.pairwise_iff_getElem.1 h i j h1 h2 hij
section
variable {μ : Mem}
theorem Ds.get {L : List (List B)} {base : Option Addr} {n : Nat} (h : Sl μ 1 base n ((L.map dsOf).map Ds.d)) {i : Nat} {x : List B} (hx : L[i]? = some x) : ∃ ad p q, ElemAt μ base n 1 i ad [.slice p x.length q] ∧ Sl μ 5 p x.length ((x.map B.bd).map Bd.d) := by
 have w_ := Ds.elem (i := i) (x := dsOf x) h (by simp [hx])
 obtain ⟨ad, p, hel, hto⟩ := w_
 have w_ := Ds.inv hto
 obtain ⟨q, e1, hs1⟩ := w_
 simp only [Value.slice.injEq, true_and] at e1
 have l1 : (dsOf x).bs.length = x.length := by simp [dsOf]
 refine ⟨ad, p.1, p.2, ?_, ?_⟩
 ·rw [← l1]; exact hel
 ·rw [e1.1, ← l1]; exact hs1
set_option maxHeartbeats 1000000 in
theorem FnMinimal_spec {base : Option Addr} {n cap : Nat} (hb : Bytes μ base n) :
  Spec Try.prog 4 [.slice base n cap] μ fun r _ => r = .bool true := by
 refine Spec.mk Try.func4 (by kernel_rfl) ?_
 refine ifd (fun h => rPl rfl) (fun h => ?_)
 refine cPl (MakeDiseqs_spec hb 0 (by decide)) fun v1 μ1 hle1 hR => ?_
 obtain ⟨L, hL, hLl, hrL⟩ := hR
 have w_ := Rep.sl hrL
 obtain ⟨b1, c1, rfl, hsL⟩ := w_
 rw [List.length_map, List.length_map] at hsL hrL ⊢
 refine cPl (MakeSolved_spec (hb.mono hle1) 60 (by decide)) fun v2 μ2 hle2 hR => ?_
 obtain ⟨s, g, u1, u2, rfl, hs, hg, _, hrs, hrg⟩ := hR
 have w_ := Rep.sl hrs
 obtain ⟨b2, c2, rfl, _⟩ := w_
 have w_ := Rep.sl hrg
 obtain ⟨b3, c3, rfl, hsg⟩ := w_
 rw [List.length_map, List.length_map] at hsg ⊢
 rw [List.length_map, List.length_map]
 have hLS : ∀ d ∈ L, Subst d := fun d hd => (hL d hd).subst (by decide) (by decide) (by decide) (by decide)
 have hml := impl_MinimalDisequalities_spec (l := L.map dsOf) (base := b1) (cap := c1) (by rw [List.length_map]; exact hrL.mono hle2) (by rw [List.length_map]; omega)
 rw [List.length_map, minD_map hLS] at hml
 refine cPl hml fun v3 μ3 hle3 hR3 => ?_
 have hrm := hR3.rep
 have w_ := Rep.sl hrm
 obtain ⟨b4, c4, rfl, hsm⟩ := w_
 rw [List.length_map, List.length_map] at hsm hrm ⊢
 have hM := minL_least hL
 generalize hMe : minL L = M at *
 have hMl := hM.len
 have hMD : ∀ d ∈ M, DSub 4 8 4 4 d := fun d hd => hL d ((hM.mem d).1 hd).1
 have hMS : ∀ d ∈ M, Subst d := fun d hd => hLS d ((hM.mem d).1 hd).1
 replace hsL := hsL.mono (hle2.trans hle3)
 replace hsg := hsg.mono hle3
 have hdh : ∀ {μ' : Mem} {d : List B} {bb : Option Addr} {cc : Nat}, Sl μ' 5 bb d.length ((d.map B.bd).map Bd.d) → Sl μ' 5 b3 g.length ((g.map B.bd).map Bd.d) → Gives Try.prog 24 [.slice bb d.length cc, .slice b3 g.length c3] μ' (.bool (decide (disHolds (d.map B.bd) (g.map B.bd)))) := fun {μ' d bb cc} k1 k2 => by
  have := impl_DisequalityHolds_spec (l := d.map B.bd) (m := g.map B.bd) (cap := cc) (cap2 := c3) (by rw [List.length_map]; exact k1) (by rw [List.length_map]; exact k2)
  rw [List.length_map, List.length_map] at this
  exact this
 refine lIn (fun p : Nat × Bool => p.1 ≤ L.length ∧ (p.2 = true ↔ ∀ d ∈ L.take p.1, disHolds (d.map B.bd) (g.map B.bd)))
  (fun (i, f) => ⟨[(3, .val (.slice b1 L.length c1)), (5, .val (.slice b3 g.length c3)), (6, .val (.slice b4 M.length c4)), (7, .val (.bool f)), (27, .val (.slice b1 L.length c1)), (28, .val (.int .i64 L.length)), (29, .val (.int .i64 i))], [], 0, μ3, Mem.nil⟩) (fun p => L.length - p.1)
  (0, true) ⟨Nat.zero_le _, by simp⟩ (fun (_, _) => ⟨rfl, rfl⟩) ⟨⟨rfl, rfl, rfl, rfl, rfl, rfl, rfl, trivial⟩, trivial, rfl, rfl⟩ ?_
 rintro ⟨i, f⟩ ⟨hi, hf⟩
 dsimp only at hi hf
 refine ifd (fun hlt => ?_) (fun hlt => ?_)
 ·have w_ := aSo (l := L) (i := i) (by omega)
  obtain ⟨d, hd⟩ := w_
  have w_ := Ds.get hsL hd
  obtain ⟨ad, p, q, hel, hsd⟩ := w_
  have hst : ∀ x : Bool, (x = true ↔ f = true ∧ disHolds (d.map B.bd) (g.map B.bd)) → (x = true ↔ ∀ e ∈ L.take (i + 1), disHolds (e.map B.bd) (g.map B.bd)) := fun x hx => by
   rw [hx, hf, List.take_add_one, hd, Option.toList_some]
   simp only [List.mem_append, List.mem_singleton, or_imp, forall_and, forall_eq]
  refine eIn hel ?_
  refine iIn (fun hft => ?_) (fun hft => ?_)
  ·refine cGv (hdh hsd hsg) ?_
   refine num64 (by omega) (by omega) ⟨(i + 1, _), ⟨by dsimp only; omega, hst (decide (disHolds (d.map B.bd) (g.map B.bd))) (by rw [decide_eq_true_eq, hft]; simp)⟩, by dsimp only; omega, ⟨⟨rfl, rfl, rfl, rfl, rfl, rfl, rfl, trivial⟩, trivial, rfl, rfl⟩⟩
  ·refine num64 (by omega) (by omega) ⟨(i + 1, false), ⟨by dsimp only; omega, hst false (by rw [hft]; simp)⟩, by dsimp only; omega, ⟨⟨rfl, rfl, rfl, rfl, rfl, rfl, rfl, trivial⟩, trivial, rfl, rfl⟩⟩
 ·obtain rfl : i = L.length := by omega
  rw [List.take_length] at hf
  refine lIn (fun p : Nat × Bool => p.1 ≤ M.length ∧ (p.2 = true ↔ ∀ d ∈ M.take p.1, disHolds (d.map B.bd) (g.map B.bd)))
   (fun (i, w) => ⟨[(3, .val (.slice b1 L.length c1)), (5, .val (.slice b3 g.length c3)), (6, .val (.slice b4 M.length c4)), (7, .val (.bool f)), (10, .val (.bool w)), (40, .val (.slice b4 M.length c4)), (41, .val (.int .i64 M.length)), (42, .val (.int .i64 i))], [], 0, μ3, Mem.nil⟩) (fun p => M.length - p.1)
   (0, true) ⟨Nat.zero_le _, by simp⟩ (fun (_, _) => ⟨rfl, rfl⟩) ⟨⟨rfl, rfl, rfl, rfl, rfl, rfl, rfl, rfl, trivial⟩, trivial, rfl, rfl⟩ ?_
  rintro ⟨i, w⟩ ⟨hi, hw⟩
  dsimp only at hi hw
  refine ifd (fun hlt => ?_) (fun hlt => ?_)
  ·have w_ := aSo (l := M) (i := i) (by omega)
   obtain ⟨d, hd⟩ := w_
   have w_ := Ds.get hsm hd
   obtain ⟨ad, p, q, hel, hsd⟩ := w_
   have hst : ∀ x : Bool, (x = true ↔ w = true ∧ disHolds (d.map B.bd) (g.map B.bd)) → (x = true ↔ ∀ e ∈ M.take (i + 1), disHolds (e.map B.bd) (g.map B.bd)) := fun x hx => by
    rw [hx, hw, List.take_add_one, hd, Option.toList_some]
    simp only [List.mem_append, List.mem_singleton, or_imp, forall_and, forall_eq]
   refine eIn hel ?_
   refine iIn (fun hft => ?_) (fun hft => ?_)
   ·refine cGv (hdh hsd hsg) ?_
    have hx := hst (decide (disHolds (d.map B.bd) (g.map B.bd))) (by rw [decide_eq_true_eq, hft]; simp)
    generalize decide (disHolds (d.map B.bd) (g.map B.bd)) = x at *
    refine lIn (fun j : Nat => j ≤ M.length)
     (fun j => ⟨[(3, .val (.slice b1 L.length c1)), (5, .val (.slice b3 g.length c3)), (6, .val (.slice b4 M.length c4)), (7, .val (.bool f)), (10, .val (.bool x)), (11, .val (.int .i64 i)), (12, .val (.slice p d.length q)), (40, .val (.slice b4 M.length c4)), (41, .val (.int .i64 M.length)), (42, .val (.int .i64 i)), (53, .val (.slice b4 M.length c4)), (54, .val (.int .i64 M.length)), (55, .val (.int .i64 j))], [], 0, μ3, Mem.nil⟩) (fun j => M.length - j)
     0 (Nat.zero_le _) (fun _ => ⟨rfl, rfl⟩) ⟨⟨rfl, rfl, rfl, rfl, rfl, rfl, rfl, rfl, rfl, rfl, rfl, rfl, rfl, trivial⟩, trivial, rfl, rfl⟩ ?_
    intro j hj
    refine ifd (fun hlt2 => ?_) (fun hlt2 => ?_)
    ·have w_ := aSo (l := M) (i := j) (by omega)
     obtain ⟨e, he⟩ := w_
     have w_ := Ds.get hsm he
     obtain ⟨ad2, p2, q2, hel2, hse⟩ := w_
     have hno : ¬ i = j → ¬ moreGen (d.map B.bd) (e.map B.bd) := fun hij k => by
      have k := ((moreGen_iff _ _).1 k).2.2
      refine hM.apart (mAt hd) (mAt he) (fun q => hij ?_) (((hMD d (mAt hd)).mgen (hMD e (mAt he))).1 k)
      subst q
      exact nodup_at hM.nodup hd he
     refine eIn hel2 ?_
     refine ifnd (fun hij => ?_) (fun hij => ?_)
     ·have hmg := impl_MoreGeneral_spec (μ := μ3) (l := d.map B.bd) (m := e.map B.bd) (cap := q) (cap2 := q2) (by rw [List.length_map]; exact hsd) (by rw [List.length_map]; exact hse)
      rw [List.length_map, List.length_map] at hmg
      refine cGv hmg ?_
      refine ifd (fun k => absurd k (hno fun q => hij (by omega))) (fun _ => ?_)
      refine ifd (fun hlt3 => ?_) (fun _ => ?_)
      ·have hasc : cmpB d e < 0 := asc3_at hM.asc (by omega) hd he
       refine cGv (CompareDisequalities_spec (c0 := q) (c1 := q2) (hMS d (mAt hd)) (hMS e (mAt he)) hsd hse) ?_
       refine ifnd (fun k => absurd (cmpB_neg hasc) k) (fun _ => ?_)
       exact num64 (by omega) (by omega) ⟨j + 1, by omega, by omega, ⟨⟨rfl, rfl, rfl, rfl, rfl, rfl, rfl, rfl, rfl, rfl, rfl, rfl, rfl, trivial⟩, trivial, rfl, rfl⟩⟩
      ·exact num64 (by omega) (by omega) ⟨j + 1, by omega, by omega, ⟨⟨rfl, rfl, rfl, rfl, rfl, rfl, rfl, rfl, rfl, rfl, rfl, rfl, rfl, trivial⟩, trivial, rfl, rfl⟩⟩
     ·refine ifd (fun hlt3 => ?_) (fun _ => ?_)
      ·have hasc : cmpB d e < 0 := asc3_at hM.asc (by omega) hd he
       refine cGv (CompareDisequalities_spec (c0 := q) (c1 := q2) (hMS d (mAt hd)) (hMS e (mAt he)) hsd hse) ?_
       refine ifnd (fun k => absurd (cmpB_neg hasc) k) (fun _ => ?_)
       exact num64 (by omega) (by omega) ⟨j + 1, by omega, by omega, ⟨⟨rfl, rfl, rfl, rfl, rfl, rfl, rfl, rfl, rfl, rfl, rfl, rfl, rfl, trivial⟩, trivial, rfl, rfl⟩⟩
      ·exact num64 (by omega) (by omega) ⟨j + 1, by omega, by omega, ⟨⟨rfl, rfl, rfl, rfl, rfl, rfl, rfl, rfl, rfl, rfl, rfl, rfl, rfl, trivial⟩, trivial, rfl, rfl⟩⟩
    ·exact num64 (by omega) (by omega) ⟨(i + 1, _), ⟨by dsimp only; omega, hx⟩, by dsimp only; omega, ⟨⟨rfl, rfl, rfl, rfl, rfl, rfl, rfl, rfl, trivial⟩, trivial, rfl, rfl⟩⟩
   ·have hx := hst false (by rw [hft]; simp)
    refine lIn (fun j : Nat => j ≤ M.length)
     (fun j => ⟨[(3, .val (.slice b1 L.length c1)), (5, .val (.slice b3 g.length c3)), (6, .val (.slice b4 M.length c4)), (7, .val (.bool f)), (10, .val (.bool false)), (11, .val (.int .i64 i)), (12, .val (.slice p d.length q)), (40, .val (.slice b4 M.length c4)), (41, .val (.int .i64 M.length)), (42, .val (.int .i64 i)), (53, .val (.slice b4 M.length c4)), (54, .val (.int .i64 M.length)), (55, .val (.int .i64 j))], [], 0, μ3, Mem.nil⟩) (fun j => M.length - j)
     0 (Nat.zero_le _) (fun _ => ⟨rfl, rfl⟩) ⟨⟨rfl, rfl, rfl, rfl, rfl, rfl, rfl, rfl, rfl, rfl, rfl, rfl, rfl, trivial⟩, trivial, rfl, rfl⟩ ?_
    intro j hj
    refine ifd (fun hlt2 => ?_) (fun hlt2 => ?_)
    ·have w_ := aSo (l := M) (i := j) (by omega)
     obtain ⟨e, he⟩ := w_
     have w_ := Ds.get hsm he
     obtain ⟨ad2, p2, q2, hel2, hse⟩ := w_
     have hno : ¬ i = j → ¬ moreGen (d.map B.bd) (e.map B.bd) := fun hij k => by
      have k := ((moreGen_iff _ _).1 k).2.2
      refine hM.apart (mAt hd) (mAt he) (fun q => hij ?_) (((hMD d (mAt hd)).mgen (hMD e (mAt he))).1 k)
      subst q
      exact nodup_at hM.nodup hd he
     refine eIn hel2 ?_
     refine ifnd (fun hij => ?_) (fun hij => ?_)
     ·have hmg := impl_MoreGeneral_spec (μ := μ3) (l := d.map B.bd) (m := e.map B.bd) (cap := q) (cap2 := q2) (by rw [List.length_map]; exact hsd) (by rw [List.length_map]; exact hse)
      rw [List.length_map, List.length_map] at hmg
      refine cGv hmg ?_
      refine ifd (fun k => absurd k (hno fun q => hij (by omega))) (fun _ => ?_)
      refine ifd (fun hlt3 => ?_) (fun _ => ?_)
      ·have hasc : cmpB d e < 0 := asc3_at hM.asc (by omega) hd he
       refine cGv (CompareDisequalities_spec (c0 := q) (c1 := q2) (hMS d (mAt hd)) (hMS e (mAt he)) hsd hse) ?_
       refine ifnd (fun k => absurd (cmpB_neg hasc) k) (fun _ => ?_)
       exact num64 (by omega) (by omega) ⟨j + 1, by omega, by omega, ⟨⟨rfl, rfl, rfl, rfl, rfl, rfl, rfl, rfl, rfl, rfl, rfl, rfl, rfl, trivial⟩, trivial, rfl, rfl⟩⟩
      ·exact num64 (by omega) (by omega) ⟨j + 1, by omega, by omega, ⟨⟨rfl, rfl, rfl, rfl, rfl, rfl, rfl, rfl, rfl, rfl, rfl, rfl, rfl, trivial⟩, trivial, rfl, rfl⟩⟩
     ·refine ifd (fun hlt3 => ?_) (fun _ => ?_)
      ·have hasc : cmpB d e < 0 := asc3_at hM.asc (by omega) hd he
       refine cGv (CompareDisequalities_spec (c0 := q) (c1 := q2) (hMS d (mAt hd)) (hMS e (mAt he)) hsd hse) ?_
       refine ifnd (fun k => absurd (cmpB_neg hasc) k) (fun _ => ?_)
       exact num64 (by omega) (by omega) ⟨j + 1, by omega, by omega, ⟨⟨rfl, rfl, rfl, rfl, rfl, rfl, rfl, rfl, rfl, rfl, rfl, rfl, rfl, trivial⟩, trivial, rfl, rfl⟩⟩
      ·exact num64 (by omega) (by omega) ⟨j + 1, by omega, by omega, ⟨⟨rfl, rfl, rfl, rfl, rfl, rfl, rfl, rfl, rfl, rfl, rfl, rfl, rfl, trivial⟩, trivial, rfl, rfl⟩⟩
    ·exact num64 (by omega) (by omega) ⟨(i + 1, _), ⟨by dsimp only; omega, hx⟩, by dsimp only; omega, ⟨⟨rfl, rfl, rfl, rfl, rfl, rfl, rfl, rfl, trivial⟩, trivial, rfl, rfl⟩⟩
  ·obtain rfl : i = M.length := by omega
   rw [List.take_length] at hw
   have hfw : f = w := by
    rw [Bool.eq_iff_iff, hf, hw]
    have := hM.all hLS (asF g)
    exact ⟨fun k d hd => ((hMD d hd).holds hg).2 (this.1 (fun e he => ((hL e he).holds hg).1 (k e he)) d hd), fun k d hd => ((hL d hd).holds hg).2 (this.2 (fun e he => ((hMD e he).holds hg).1 (k e he)) d hd)⟩
   have hpos := hM.pos hLS
   have e2 : ((f == w) : Bool) = true := by rw [hfw]; exact beq_self_eq_true w
   refine iIn (fun _ => ?_) (fun k => absurd (e2.symm.trans k) (by decide))
   refine ifd (fun _ => ?_) (fun k => absurd (by omega) k)
   have e3 : ((decide ((0 : Int) < M.length) == decide ((0 : Int) < L.length)) : Bool) = true := by
    have : (0 : Int) < M.length ↔ (0 : Int) < L.length := by omega
    simp only [this, beq_self_eq_true]
   refine iIn (fun _ => ?_) (fun k => absurd (e3.symm.trans k) (by decide))
   have hml2 := impl_MinimalDisequalities_spec (μ := μ3) (l := M.map dsOf) (base := b4) (cap := c4) (by rw [List.length_map]; exact hrm) (by rw [List.length_map]; omega)
   rw [List.length_map, minD_map hMS] at hml2
   refine cPl hml2 fun v4 μ4 hle4 hR4 => ?_
   have hag : minL M = M := hM.again (minL_least hMD)
   rw [hag] at hR4
   have w_ := Rep.sl hR4.rep
   obtain ⟨b5, c5, rfl, hsm2⟩ := w_
   rw [List.length_map, List.length_map] at hsm2 ⊢
   refine cGv (diseqs_spec (x := M) (y := M) (cap := c5) (cap2 := c4) hsm2 (hsm.mono hle4)) ?_
   exact rPl (by rw [decide_eq_true rfl])
end
end Go.Vx
