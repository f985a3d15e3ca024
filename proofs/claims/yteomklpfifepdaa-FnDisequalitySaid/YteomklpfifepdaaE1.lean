/- Texts of the proof, part E1. -/
import Derived.Lib.ReflectliteSwap
import Derived.Test.YteomklpfifepdaaM4
namespace Go.Vx
open Go.Proofs Classical
theorem T.size_pos : ∀ x : T, 1 ≤ x.size
 | .nil => by simp [T.size]
 | .var _ => by simp [T.size]
 | .sym _ => by simp [T.size]
 | .num _ => by simp [T.size]
 | .pair a b => by simp [T.size]; omega
end Go.Vx
namespace Go.Vx
open Go.Proofs Classical
def differ (bl : List B) (b : B) : Prop := ∃ x y, fit ((T.var b.var).subst (sub bl)) = some x ∧ fit (b.to.subst (sub bl)) = some y ∧ x ≠ y
def disHolds (l m : List Bd) : Prop := substOk l ∧ valsOk m ∧ ∃ b ∈ l.map Bd.b, differ (m.map Bd.b) b
theorem disHolds_iff (bs bl : List B) : disHolds (bs.map B.bd) (bl.map B.bd) ↔ Subst bs ∧ Vals bl ∧ ∃ b ∈ bs, differ bl b := by
 unfold disHolds
 rw [substOk_iff, B.map_b, B.map_b]
 exact ⟨fun h => ⟨h.1, ⟨h.2.1⟩, h.2.2⟩, fun h => ⟨h.1, h.2.1.1, h.2.2⟩⟩
section
variable {μ : Mem}
theorem impl_DisequalityHolds_spec {l m : List Bd} {base base2 : Option Addr} {cap cap2 : Nat} (hsl : Sl μ 5 base l.length (l.map Bd.d)) (hsl2 : Sl μ 5 base2 m.length (m.map Bd.d)) :
  Gives Try.prog 24 [.slice base l.length cap, .slice base2 m.length cap2] μ (.bool (decide (disHolds l m))) := by
 refine Spec.forget (Spec.mk Try.func24 (by kernel_rfl) ?_)
 refine cGv (impl_SubstOk_spec hsl) ?_
 refine ifnd (fun h => rPl (isF fun k => h k.1)) (fun h1 => ?_)
 refine cGv (impl_ValuesOk_spec hsl2) ?_
 refine ifnd (fun h => rPl (isF fun k => h k.2.1)) (fun h2 => ?_)
 obtain ⟨bs, rfl, hbs⟩ := h1.subst
 obtain ⟨bt, rfl, ht⟩ := h2.vals
 rw [List.length_map] at hsl ⊢
 rw [List.length_map] at hsl2 ⊢
 have hn := hbs.vals.len
 have htl := ht.len
 let good := differ bt
 have none : (∀ b ∈ bs, ¬ good b) → Value.bool false = .bool (decide (disHolds (bs.map B.bd) (bt.map B.bd))) := fun k => isF fun h => by
  have w_ := ((disHolds_iff bs bt).1 h).2.2
  obtain ⟨b, hb, h⟩ := w_
  exact k b hb h
 refine lIn (fun p : Nat × Mem => p.1 ≤ bs.length ∧ μ.Le p.2 ∧ ∀ (j : Nat) b, j < p.1 → bs[j]? = some b → ¬ good b)
  (fun (i, μ') => ⟨[(1, .val (.slice base2 bt.length cap2)), (19, .val (.slice base bs.length cap)), (20, .val (.int .i64 bs.length)), (21, .val (.int .i64 i))], [], 0, μ', Mem.nil⟩) (fun p => bs.length - p.1)
  (0, μ) ⟨by simp, Mem.Le.refl μ, fun j b hj => by simp at hj⟩ (fun (_, _) => ⟨rfl, rfl⟩) ⟨⟨rfl, rfl, rfl, rfl, trivial⟩, trivial, rfl, rfl⟩ ?_
 rintro ⟨i, μ'⟩ ⟨hi, hle, hall⟩
 dsimp only at hi hle hall
 refine ifd (fun h => ?_) (fun h => ?_)
 rotate_left
 ·obtain rfl : i = bs.length := by omega
  exact rPl (none fun b hb => by
   have w_ := List.mem_iff_getElem?.1 hb
   obtain ⟨j, hj⟩ := w_
   exact hall j b (List.getElem?_eq_some_iff.1 hj).1 hj)
 have w_ := aSo (l := bs) (i := i) (by omega)
 obtain ⟨b, hb⟩ := w_
 have w_ := B.elem (hsl.mono hle) hb
 obtain ⟨ad, p, hel, hto⟩ := w_
 have hsl2' := hsl2.mono hle
 have fin : ∀ μ3, μ'.Le μ3 → ¬ good b → i + 1 ≤ bs.length ∧ μ.Le μ3 ∧ ∀ (j : Nat) c, j < i + 1 → bs[j]? = some c → ¬ good c := fun μ3 hle3 hg => ⟨by omega, hle.trans hle3, fun j c hj hc => by
  rcases Nat.lt_or_ge j i with h6 | h6
  ·exact hall j c h6 hc
  ·obtain rfl : j = i := by omega
   rw [hb] at hc; cases hc; exact hg⟩
 refine eIn hel ?_
 intro r
 have no : ¬ differ bt b → ¬ good b := id
 have yes : ∀ b ∈ bs, differ bt b → Value.bool true = .bool (decide (disHolds (bs.map B.bd) (bt.map B.bd))) := fun b hb h => isT ((disHolds_iff bs bt).2 ⟨hbs, ht, b, hb, h⟩)
 refine cGv (variable_spec _) ?_
 refine cPl (put_spec (T.var b.var) ht.srt (by omega) ht.tok hsl2' (varV_rep _)) fun v1 μ1 hle1 hR1 => ?_
 have w_ := optV_fresh hR1
 obtain ⟨tv1, rfl, hf1⟩ := w_
 have w_ := Tm.invV hf1.rep
 obtain ⟨p1, rfl⟩ := w_
 intro r7
 refine cPl (put_spec b.to ht.srt (by omega) ht.tok (hsl2'.mono hle1) (hto.mono hle1)) fun v2 μ2 hle2 hR2 => ?_
 have w_ := optV_fresh hR2
 obtain ⟨tv2, rfl, hf2⟩ := w_
 have w_ := Tm.invV hf2.rep
 obtain ⟨p2, rfl⟩ := w_
 intro r9
 cases e1 : fit ((T.var b.var).subst (sub bt)) with
 | none => exact iIn (fun h => nomatch h) (fun _ => num64 (by omega) (by omega) ⟨(i + 1, μ2), fin μ2 (hle1.trans hle2) (no (by rintro ⟨x, y, k, _⟩; first | cases k | (rw [e1] at k; cases k))), by dsimp only; omega, ⟨⟨rfl, rfl, rfl, rfl, trivial⟩, trivial, rfl, rfl⟩⟩)
 | some x1 =>
  refine iIn (fun _ => ?_) (fun h => nomatch h)
  cases e2 : fit (b.to.subst (sub bt)) with
  | none => exact iIn (fun h => nomatch h) (fun _ => num64 (by omega) (by omega) ⟨(i + 1, μ2), fin μ2 (hle1.trans hle2) (no (by rintro ⟨x, y, _, k, _⟩; first | cases k | (rw [e2] at k; cases k))), by dsimp only; omega, ⟨⟨rfl, rfl, rfl, rfl, trivial⟩, trivial, rfl, rfl⟩⟩)
  | some x2 =>
   refine iIn (fun _ => ?_) (fun h => nomatch h)
   rw [e1] at hf1
   rw [e2] at hf2
   refine cGv (equalTerms_spec x1 x2 (hf1.rep.mono hle2) hf2.rep) ?_
   refine ifnd (fun h9 => ?_) (fun h9 => ?_)
   ·exact rPl (yes b (mAt hb) ⟨x1, x2, e1, e2, h9⟩)
   ·exact num64 (by omega) (by omega) ⟨(i + 1, μ2), fin μ2 (hle1.trans hle2) (no (by rintro ⟨x, y, k1, k2, k3⟩; first | cases k1 | (rw [e1] at k1; cases k1); first | cases k2 | (rw [e2] at k2; cases k2); exact k3 h9)), by dsimp only; omega, ⟨⟨rfl, rfl, rfl, rfl, trivial⟩, trivial, rfl, rfl⟩⟩
end
end Go.Vx
namespace Go.Vx
open Go.Proofs Classical
section
variable {μ : Mem}
theorem apartB {h : Mem} {r r' cap es : Nat} {ty : TypeId} {ys : List Value} (hb : RowO h r cap ty es ys) (hap : Apart μ h) (hor : r' = r ∨ (h r' = none ∧ μ r' = none)) : μ r' = none := by
 rcases hor with rfl | ⟨_, h2⟩
 ·obtain ⟨cs, h1, _⟩ := hb
  cases e : μ r' with
  | none => rfl
  | some o => have := hap r' (by simp [e]); rw [h1] at this; cases this
 ·exact h2
end
end Go.Vx
namespace Go.Vx
open Go.Proofs Classical
open Go.Sort
structure SortBy {α : Type} [Inhabited α] (lf sf : FuncId) (lb sb : List Value) (n : Nat) (lt : α → α → Bool) (μ0 : Mem) (J : Array α → Mem) (V : Array α → Prop) : Prop where
 max : n ≤ 1000000000000
 size : ∀ {d}, V d → d.size = n
 sw : ∀ {d : Array α} {i j : Nat}, V d → i < n → j < n → V (swp d i j)
 dom : ∀ {d d' : Array α} {b : Nat}, V d → V d' → J d b = none → J d' b = none
 less : ∀ {μ : Mem} {d : Array α} {i j : Nat}, μ0.Le μ → V d → i < n → j < n → SpecH Try.prog lf (.int .i64 i :: .int .i64 j :: lb) μ (J d) fun v μ' h' => v = .bool (lt d[i]! d[j]!) ∧ μ' = μ ∧ h' = J d
 swap : ∀ {μ : Mem} {d : Array α} {i j : Nat}, μ0.Le μ → V d → i < n → j < n → SpecH Try.prog sf (.int .i64 i :: .int .i64 j :: sb) μ (J d) fun v μ' h' => v = .tuple #[] ∧ μ' = μ ∧ h' = J (swp d i j)
section
variable {α : Type} [Inhabited α] {lf sf : FuncId} {lb sb : List Value} {n : Nat} {lt : α → α → Bool} {μ0 : Mem} {J : Array α → Mem} {V : Array α → Prop} {μ : Mem} {d : Array α}
end
end Go.Vx
namespace Go.Vx
open Go.Proofs Classical
open Go.Sort
theorem parts_set {g : Mem} {r : Nat} {o : Obj} (h : g r = none) : Parts (g.set r o) (Mem.nil.set r o) g := fun b => by
 by_cases e : b = r
 ·subst e; exact .inl ⟨by rw [Mem.set_at, Mem.set_at], h⟩
 ·exact .inr ⟨by rw [Mem.set_ne e], by rw [Mem.set_ne e]; rfl⟩
section
variable {α : Type} {J : Array α → Mem} {μ : Mem} {d : Array α} {rs : Nat} {s : Int}
end
section
variable {α : Type} [Inhabited α] {lf sf : FuncId} {lb sb : List Value} {n : Nat} {lt : α → α → Bool} {μ0 : Mem} {J : Array α → Mem} {V : Array α → Prop} {μ : Mem} {d : Array α} {rs : Nat} {s : Int}
theorem SortBy.beside (H : SortBy lf sf lb sb n lt μ0 J V) (o : Obj) (h : ∀ d, V d → J d rs = none) : SortBy lf sf lb sb n lt μ0 (fun d => (J d).set rs o) V where
 max := H.max
 size := H.size
 sw := H.sw
 dom hV hV' hb := by
  simp only [Mem.set_get] at hb ⊢
  split at hb
  ·cases hb
  ·rename_i e; rw [if_neg e]; exact H.dom hV hV' hb
 less hle hV hi hj := (SpecH.frame (parts_set (h _ hV)).symm (H.less hle hV hi hj)).weaken fun v μ' h' _ _ ⟨g, ⟨e1, e2, e3⟩, p⟩ => ⟨e1, e2, by rw [e3] at p; exact p.eq (parts_set (h _ hV)).symm⟩
 swap hle hV hi hj := (SpecH.frame (parts_set (h _ hV)).symm (H.swap hle hV hi hj)).weaken fun v μ' h' _ _ ⟨g, ⟨e1, e2, e3⟩, p⟩ => ⟨e1, e2, by rw [e3] at p; exact p.eq (parts_set (h _ (H.sw hV hi hj))).symm⟩
end
end Go.Vx
namespace Go.Vx
open Go.Proofs Classical
open Go.Sort
open Go.Extern Go.Extern.Rtype Go.RowKit Go.Lib
section
variable {P : Program} {f : FuncId} {args : List Value} {μ h0 : Mem}
theorem SpecH.ext {R : Value → Mem → Mem → Prop} (h : ∀ w, Holds μ w → Holds h0 w → Apart μ h0 → ∃ v w' μ' h', (callFunc f args.toArray).run P w = .ok (.value v) w' ∧ R v μ' h' ∧ Step μ h0 w μ' h' w') : SpecH P f args μ h0 R :=
 ⟨trivial, fun w h1 h2 h3 => by
  have w_ := h w h1 h2 h3
  obtain ⟨v, w', μ', h', e, hr, hS⟩ := w_
  exact .inr ⟨v, w', e, v, μ', h', rfl, hr, hS⟩⟩
theorem Step.same {w : World} (h1 : Holds μ w) (h2 : Holds h0 w) (h3 : Apart μ h0) : Step μ h0 w μ h0 w :=
 ⟨Mem.Le.refl _, h1, h2, h3, fun _b h h' => absurd h h', fun _b h => .inr h, Nat.le_refl _, fun _ _ _ => rfl, rfl, rfl, rfl⟩
theorem Step.row {w : World} {r : Nat} {cs cs' : Array Value} {ty : TypeId} (h1 : Holds μ w) (h2 : Holds h0 w) (h3 : Apart μ h0) (hr : h0 r = some (.cells cs ty (0, 0))) : Step μ h0 w μ (h0.set r (.cells cs' ty (0, 0))) (w.setRow r cs') := by
 have hne : ∀ b, μ b ≠ none → b ≠ r := fun b hb e => by
  subst e; rw [h3 b hb] at hr; cases hr
 have hg : w.heap[r]? = some (.cells cs ty (0, 0)) := h2 _ _ hr
 refine ⟨Mem.Le.refl _, fun b o hb => ?_, fun b o hb => ?_, fun b hb => ?_, fun b h h' => absurd h h', fun b h => ?_, by simp, fun b _ hb => setRow_other w r b _ fun e => ?_, rfl, rfl, rfl⟩
 ·rw [setRow_other w r b _ (hne b (by simp [hb]))]; exact h1 b o hb
 ·rw [Mem.set_get] at hb
  split at hb
  ·rename_i e; subst e; cases hb; rw [setRow_heap w b _ _ ty (0, 0) hg]
  ·rename_i e; rw [setRow_other w r b _ e]; exact h2 b o hb
 ·rw [Mem.set_ne (hne b hb)]; exact h3 b hb
 ·by_cases e : b = r
  ·subst e; exact .inr (by rw [hr]; simp)
  ·rw [Mem.set_ne e] at h; exact .inr h
 ·subst e; rw [hr] at hb; cases hb
theorem Step.alloc {w : World} {o : Obj} (h1 : Holds μ w) (h2 : Holds h0 w) (h3 : Apart μ h0) : Step μ h0 w (μ.set w.heap.size o) h0 (w.alloc o) ∧ μ w.heap.size = none := by
 have hlt : ∀ b o, w.heap[b]? = some o → b < w.heap.size := fun b o h => (Array.getElem?_eq_some_iff.1 h).1
 have hm : μ w.heap.size = none := by
  cases e : μ w.heap.size with
  | none => rfl
  | some o => have := hlt _ _ (h1 _ _ e); omega
 have hh : h0 w.heap.size = none := by
  cases e : h0 w.heap.size with
  | none => rfl
  | some o => have := hlt _ _ (h2 _ _ e); omega
 have hk : ∀ b, b < w.heap.size → (w.alloc o).heap[b]? = w.heap[b]? := fun b hb => by
  show (w.heap.push o)[b]? = _
  rw [Array.getElem?_push, if_neg (by omega)]
 refine ⟨⟨fun b x hb => ?_, fun b x hb => ?_, fun b x hb => ?_, fun b hb => ?_, fun b h h' => ?_, fun b h => .inr h, by show w.heap.size ≤ (w.heap.push o).size; simp, fun b hb _ => hk b hb, rfl, rfl, rfl⟩, hm⟩
 ·rw [Mem.set_ne (fun e => by subst e; rw [hm] at hb; cases hb)]; exact hb
 ·rw [Mem.set_get] at hb
  split at hb
  ·rename_i e; subst e; cases hb; show (w.heap.push o)[w.heap.size]? = some o; simp
  ·rw [hk b (hlt _ _ (h1 _ _ hb))]; exact h1 _ _ hb
 ·rw [hk b (hlt _ _ (h2 _ _ hb))]; exact h2 _ _ hb
 ·rw [Mem.set_get] at hb
  split at hb
  ·rename_i e; subst e; exact hh
  ·exact h3 b hb
 ·rw [Mem.set_get] at h'
  split at h'
  ·rename_i e; subst e; exact .inl (Nat.le_refl _)
  ·exact absurd h h'
end
structure SlTy (t e : TypeId) (i ie : TypeInfo) (ke : Nat) : Prop where
 hi : Try.prog.info? t = some i
 hd : i.desc = .slice e
 pk : Try.prog.packed t = false
 hie : Try.prog.info? e = some ie
 hke : ∀ w, (Extern.Rtype.kind e).run Try.prog w = .ok ke w
 h9 : swapperK 2 ie ke = 9
section
variable {μ : Mem}
end
end Go.Vx
namespace Go.Vx
open Go.Proofs Classical
open Go.Sort
open Go.Extern Go.Extern.Rtype Go.RowKit Go.Lib
def RowV (h0 : Mem) (r : Nat) (ty : TypeId) (rest : List Value) (d : Array Value) : Mem := h0.set r (.cells (List.toArray (d.toList.flatMap vcells ++ rest)) ty (0, 0))
def Els (es : Nat) (d : Array Value) : Prop := ∀ x ∈ d.toList, (vcells x).length = es ∧ ∀ u ∈ vcells x, u.oneCell' = true
theorem flat_put {es : Nat} : ∀ {l : List Value}, (∀ y ∈ l, (vcells y).length = es) → ∀ {i : Nat}, i < l.length → ∀ {y : Value}, (vcells y).length = es → ∀ rest : List Value,
  (l.flatMap vcells ++ rest).take (i * es) ++ vcells y ++ (l.flatMap vcells ++ rest).drop (i * es + es) = (l.set i y).flatMap vcells ++ rest
 | [], _, i, hi, _, _, _ => by simp at hi
 | z :: r, hl, 0, _, y, hy, rest => by
  have hz := hl z (by simp)
  simp only [Nat.zero_mul, List.take_zero, List.nil_append, Nat.zero_add, List.set_cons_zero, List.flatMap_cons, List.append_assoc]
  rw [← hz, List.drop_left]
 | z :: r, hl, i + 1, hi, y, hy, rest => by
  have hz := hl z (by simp)
  have ih := flat_put (l := r) (fun y h => hl y (List.mem_cons_of_mem _ h)) (i := i) (by simpa using hi) hy rest
  simp only [List.set_cons_succ, List.flatMap_cons, List.append_assoc] at ih ⊢
  have e1 : (i + 1) * es = (vcells z).length + i * es := by rw [hz, Nat.add_mul, Nat.one_mul, Nat.add_comm]
  rw [e1, List.take_length_add_append, Nat.add_assoc, List.drop_length_add_append, List.append_assoc, ih]
theorem arrV_at {d : Array Value} {k : Nat} (h : k < d.size) : d.toList[k]? = some d[k]! := by
 rw [Array.getElem?_toList, getElem!_pos d k h, Array.getElem?_eq_getElem h]
theorem arrV_mem {d : Array Value} {k : Nat} (h : k < d.size) : d[k]! ∈ d.toList := List.mem_of_getElem? (arrV_at h)
theorem Els.perm {es n : Nat} {d d' : Array Value} (hn : d.size = n) (h : Els es d) (p : PermIn 0 n d d') : Els es d' := fun x hx => by
 have w_ := List.mem_iff_getElem?.1 hx
 obtain ⟨i, hi⟩ := w_
 have hi2 : i < d'.size := by have := (List.getElem?_eq_some_iff.1 hi).1; simpa using this
 rw [arrV_at hi2] at hi
 cases hi
 exact permIn_all d d' 0 n (fun x => (vcells x).length = es ∧ ∀ u ∈ vcells x, u.oneCell' = true) (by omega) p (fun j _ hj => h _ (arrV_mem (by omega))) i (by omega) (by rw [p.1] at hi2; omega)
section
variable {P : Program} {μ h0 : Mem} {r : Nat} {ty : TypeId} {rest : List Value} {d : Array Value} {es : Nat}
theorem RowV.cell (hE : Els es d) {i c : Nat} {v : Value} (hi : i < d.size) (hv : (vcells d[i]!)[c]? = some v) : (RowV h0 r ty rest d).cell ⟨r, i * es + c, none⟩ = some v := by
 have h := flat_at (fun y hy => (hE y hy).1) (arrV_at hi) hv
 simp only [Mem.cell, RowV, Mem.set_at, Option.isSome_none]
 have h2 := (List.getElem?_eq_some_iff.1 h).1
 simp only [List.getElem?_toArray]
 rw [List.getElem?_append_left h2, h]
 rfl
theorem load_row {e : TypeId} {ti : TI} (hti : TIok P e ti) (w : World) (a : Addr) (x : Value) (hl : (vcells x).length = ti.size) (h : ∀ j v, (vcells x)[j]? = some v → w.cell? (a.add j) = some v) (h1 : ti.agg = false → ti.size = 1) (h2 : ∀ u ∈ vcells x, u.oneCell' = true) :
  ∃ y, (loadVar e a).run P w = .ok y w ∧ vcells y = vcells x := by
 have hr := run_loadVar_cells hti w a (vcells x) hl h h1
 refine ⟨_, hr, ?_⟩
 cases hg : ti.agg with
 | true => simp [vcells]
 | false =>
  rw [h1 hg] at hl
  match hc : vcells x, hl with
  | [u], _ =>
   have := h2 u (by rw [hc]; simp)
   simp only [Bool.false_eq_true, if_false, List.getD_cons_zero]
   cases u <;> first | rfl | (simp [Value.oneCell'] at this)
theorem swap9_spec {e : TypeId} {ti : TI} (hti : TIok Try.prog e ti) (h1 : ti.agg = false → ti.size = 1) (hE : Els ti.size d) {n cap i j : Nat} (hd : d.size = n) (hi : i < n) (hj : j < n) :
  SpecH Try.prog 145 [.int .i64 i, .int .i64 j, .slice (some ⟨r, 0, none⟩) n cap, typeHandle Try.prog e] μ (RowV h0 r ty rest d) fun v μ' h' => v = .tuple #[] ∧ μ' = μ ∧ h' = RowV h0 r ty rest (swp d i j) := by
 refine SpecH.ext fun w hm hh ha => ?_
 subst hd
 have hX := hE _ (arrV_mem hi)
 have hY := hE _ (arrV_mem hj)
 have hcell : ∀ k, k < d.size → ∀ c v, (vcells d[k]!)[c]? = some v → w.cell? ((⟨r, k * ti.size, none⟩ : Addr).add c) = some v := fun k hk c v hv => by
  rw [Addr.add_lit']; exact hh.cell (RowV.cell hE hk hv)
 have w_ := load_row hti w ⟨r, i * ti.size, none⟩ d[i]! hX.1 (hcell i hi) h1 hX.2
 obtain ⟨X, l1, eX⟩ := w_
 have w_ := load_row hti w ⟨r, j * ti.size, none⟩ d[j]! hY.1 (hcell j hj) h1 hY.2
 obtain ⟨Y, l2, eY⟩ := w_
 have hb : ∀ k, k < d.size → k * ti.size + ti.size ≤ d.size * ti.size := fun k hk => by
  have := Nat.mul_le_mul_right ti.size (show k + 1 ≤ d.size from hk); rwa [Nat.add_mul, Nat.one_mul] at this
 have hlen : (d.toList.flatMap vcells).length = d.size * ti.size := by rw [flat_len _ fun y hy => (hE y hy).1]; simp
 have hg : w.heap[r]? = some (.cells (List.toArray (d.toList.flatMap vcells ++ rest)) ty (0, 0)) := hh _ _ (Mem.set_at _ _ _)
 have s1 := run_storeVar hti w r (i * ti.size) _ ty hg Y (by rw [eY]; exact hY.1) (by have := hb i hi; simp [hlen]; omega) (by rw [eY]; exact hY.2)
 have e1 := flat_put (fun y hy => (hE y hy).1) (l := d.toList) (i := i) (by simpa using hi) (y := d[j]!) hY.1 rest
 rw [eY, hY.1] at s1
 simp only [e1] at s1
 have hE2 : ∀ y ∈ d.toList.set i d[j]!, (vcells y).length = ti.size := fun y hy => by
  rcases List.mem_or_eq_of_mem_set hy with h | h
  ·exact (hE y h).1
  ·subst h; exact hY.1
 have hlen2 : ((d.toList.set i d[j]!).flatMap vcells).length = d.size * ti.size := by rw [flat_len _ hE2]; simp
 have hg2 : (w.setRow r (List.toArray ((d.toList.set i d[j]!).flatMap vcells ++ rest))).heap[r]? = some (.cells (List.toArray ((d.toList.set i d[j]!).flatMap vcells ++ rest)) ty (0, 0)) := setRow_heap w r _ _ ty (0, 0) hg
 have s2 := run_storeVar hti _ r (j * ti.size) _ ty hg2 X (by rw [eX]; exact hX.1) (by have := hb j hj; simp [hlen2]; omega) (by rw [eX]; exact hX.2)
 have e2 := flat_put hE2 (i := j) (by simpa using hj) (y := d[i]!) hX.1 rest
 rw [eX, hX.1] at s2
 simp only [e2] at s2
 have hsw : (d.toList.set i d[j]!).set j d[i]! = (swp d i j).toList := by rw [swp, Array.toList_setIfInBounds, Array.toList_setIfInBounds]
 rw [hsw] at s2
 have hss : ∀ z z', (w.setRow r z).setRow r z' = w.setRow r z' := fun z z' => setRow_setRow w r z z'
 have hS := Step.row (cs' := List.toArray ((swp d i j).toList.flatMap vcells ++ rest)) hm hh ha (Mem.set_at _ _ _)
 refine ⟨.tuple #[], w.setRow r (List.toArray ((swp d i j).toList.flatMap vcells ++ rest)), μ, RowV h0 r ty rest (swp d i j), ?_, ⟨rfl, rfl, rfl⟩, ?_⟩
 rotate_left
 ·rw [RowV, Mem.set_set] at hS; exact hS
 rw [run_callFunc_extern Try.func145 (by kernel_rfl) (by kernel_rfl) (by kernel_rfl) (e := Extern.ReflectliteSwapper.swap false) (by kernel_rfl)]
 show (Sem.run _ (ReflectliteSwapper.swap false #[.int .i64 i, .int .i64 j, .slice (some ⟨r, 0, none⟩) d.size cap, typeHandle Try.prog e]) w).andThen _ = _
 have i0 : ¬ ((i : Int) < 0) := by omega
 have i1 : ¬ ((i : Int) ≥ d.size) := by omega
 have j0 : ¬ ((j : Int) < 0) := by omega
 have j1 : ¬ ((j : Int) ≥ d.size) := by omega
 rw [rl_swap]
 simp [i0, i1, j0, j1, ofHandle, handleType, typeHandle, ReflectliteSwapper.exchange, hti.run_sizeOf, Addr.add_lit', l1, l2, s1, s2, hss, Result.andThen]
end
section
variable {μ h0 : Mem} {lf sf : FuncId} {lb sb : List Value} {n : Nat}
end
section
variable {α : Type} [Inhabited α] {enc : α → Value} {μ h0 : Mem} {r : Nat} {ty t e : TypeId} {i ie : TypeInfo} {ke : Nat} {ti : TI} {rest : List Value} {d0 : Array α} {n cap : Nat} {lf : FuncId} {lb : List Value} {lt : α → α → Bool}
theorem map_get {d : Array α} {k : Nat} (h : k < d.size) : (d.map enc)[k]! = enc d[k]! := by
 rw [getElem!_pos _ k (by simpa using h), getElem!_pos d k h, Array.getElem_map]
theorem swp_map {d : Array α} {a b : Nat} (ha : a < d.size) (hb : b < d.size) : (swp d a b).map enc = swp (d.map enc) a b := by
 unfold swp
 rw [map_get hb, map_get ha]
 simp
theorem permIn_map {d d' : Array α} (hn : d.size = n) (p : PermIn 0 n d d') : PermIn 0 n (d.map enc) (d'.map enc) := by
 obtain ⟨h1, h2, h3⟩ := p
 refine ⟨by simp [h1], fun k hk => ?_, ?_⟩
 ·have hk2 : n ≤ k := by omega
  rw [getElem!_neg _ k (by simp; omega), getElem!_neg _ k (by simp; omega)]
 ·have e1 : d'.extract 0 n = d' := by rw [← hn, ← h1]; exact Array.extract_size
  have e2 : d.extract 0 n = d := by rw [← hn]; exact Array.extract_size
  have e3 : (d'.map enc).extract 0 n = d'.map enc := by rw [← hn, ← h1, show d'.size = (d'.map enc).size by simp]; exact Array.extract_size
  have e4 : (d.map enc).extract 0 n = d.map enc := by rw [← hn, show d.size = (d.map enc).size by simp]; exact Array.extract_size
  rw [e1, e2] at h3
  rw [e3, e4]
  simpa using h3.map enc
theorem SortBy.row (hti : TIok Try.prog e ti) (h1 : ti.agg = false → ti.size = 1) (hE : Els ti.size (d0.map enc)) (hn : d0.size = n) (hmax : n ≤ 1000000000000)
  (less : ∀ {μ' : Mem} {d : Array α} {i j : Nat}, μ.Le μ' → PermIn 0 n d0 d → i < n → j < n → SpecH Try.prog lf (.int .i64 i :: .int .i64 j :: lb) μ' (RowV h0 r ty rest (d.map enc)) fun v μ'' h' => v = .bool (lt d[i]! d[j]!) ∧ μ'' = μ' ∧ h' = RowV h0 r ty rest (d.map enc)) :
  SortBy lf 145 lb [.slice (some ⟨r, 0, none⟩) n cap, typeHandle Try.prog e] n lt μ (fun d => RowV h0 r ty rest (d.map enc)) (PermIn 0 n d0) where
 max := hmax
 size hV := hV.1.trans hn
 sw hV hi hj := permIn_trans _ _ _ _ _ hV (swp_permIn _ _ _ _ _ (Nat.zero_le _) hi (Nat.zero_le _) hj (by rw [hV.1, hn]; exact Nat.le_refl _))
 dom {d d' b} _ _ hb := by
  simp only [RowV, Mem.set_get] at hb ⊢
  split at hb
  ·cases hb
  ·rename_i e; rw [if_neg e]; exact hb
 less hle hV hi hj := less hle hV hi hj
 swap {μ d i j} hle hV hi hj := by
  have hs : d.size = n := hV.1.trans hn
  have := swap9_spec (μ := μ) (h0 := h0) (r := r) (ty := ty) (rest := rest) (cap := cap) hti h1 (d := d.map enc) (hE.perm (by simp [hn]) (permIn_map hn hV)) (by simpa using hs) hi hj
  rwa [← swp_map (by omega) (by omega)] at this
end
section
variable {μ h0 : Mem} {r : Nat} {ty : TypeId} {rest : List Value} {es : Nat}
end
end Go.Vx
namespace Go.Vx
open Go.Proofs Classical
open Go.Sort
structure Prs {X : Type} (es : Nat) (f : X → D) (ps : List (X × Value)) (g : Mem) : Prop where
 own : OwnRows es (ps.map fun p => f p.1) (ps.map Prod.snd) g
 size : ∀ p ∈ ps, (vcells p.2).length = es ∧ ∀ u ∈ vcells p.2, u.oneCell' = true
section
variable {X : Type} {es : Nat} {f : X → D} {g : Mem}
theorem Prs.uncons {p : X × Value} {ps : List (X × Value)} (h : Prs es f (p :: ps) g) : ∃ g1 g2, Parts g g1 g2 ∧ Own (f p.1) g1 (vcells p.2) ∧ (f p.1).n = es ∧ Prs es f ps g2 := by
 obtain ⟨⟨ho, hs, hl⟩, hz⟩ := h
 simp only [List.map_cons, List.flatMap_cons] at ho
 obtain ⟨c1, c2, g1, g2, e, hp, h1, h2⟩ := ho
 have hn : (f p.1).n = es := hs _ (by simp)
 have hz0 := (hz p (by simp)).1
 have := List.append_inj e (by rw [h1.len, hn, hz0])
 obtain ⟨rfl, rfl⟩ := this
 exact ⟨g1, g2, hp, h1, hn, ⟨h2, fun x hx => hs x (by simp only [List.map_cons]; exact List.mem_cons_of_mem _ hx), by simp⟩, fun q hq => hz q (List.mem_cons_of_mem _ hq)⟩
theorem Prs.cons {p : X × Value} {ps : List (X × Value)} {g1 g2 : Mem} (hp : Parts g g1 g2) (h1 : Own (f p.1) g1 (vcells p.2)) (hn : (f p.1).n = es) (hz : (vcells p.2).length = es ∧ ∀ u ∈ vcells p.2, u.oneCell' = true) (h : Prs es f ps g2) : Prs es f (p :: ps) g := by
 refine ⟨⟨?_, ?_, by simp⟩, ?_⟩
 ·simp only [List.map_cons, List.flatMap_cons]
  exact OwnS.cons hp h1 h.own.own
 ·intro x hx
  simp only [List.map_cons, List.mem_cons] at hx
  rcases hx with rfl | hx
  ·exact hn
  ·exact h.own.size x hx
 ·intro q hq
  rcases List.mem_cons.1 hq with rfl | hq
  ·exact hz
  ·exact h.size q hq
theorem Prs.perm {ps ps' : List (X × Value)} (h : ps.Perm ps') : ∀ {g : Mem}, Prs es f ps g → Prs es f ps' g := by
 induction h with
 | nil => exact fun h => h
 | cons p _ ih =>
  intro g h
  obtain ⟨g1, g2, hp, h1, hn, h2⟩ := h.uncons
  exact Prs.cons hp h1 hn (h.size _ (by simp)) (ih h2)
 | swap p q l =>
  intro g h
  obtain ⟨g1, k, hp, h1, hn, h2⟩ := h.uncons
  obtain ⟨g2, g3, hq, h3, hn2, h4⟩ := h2.uncons
  have w_ := Parts.assoc hp hq.symm
  obtain ⟨m, hm1, hm2⟩ := w_
  exact Prs.cons hm2.symm h3 hn2 (h.size _ (by simp)) (Prs.cons hm1 h1 hn (h.size _ (by simp)) h4)
 | trans _ _ ih1 ih2 => exact fun h => ih2 (ih1 h)
theorem Prs.at : ∀ {ps : List (X × Value)} {g : Mem}, Prs es f ps g → ∀ p ∈ ps, ∃ g' : Mem, g'.Le g ∧ Own (f p.1) g' (vcells p.2)
 | [], _, _, p, hp => by simp at hp
 | q :: ps, g, h, p, hp => by
  obtain ⟨g1, g2, hpp, h1, _, h2⟩ := h.uncons
  rcases List.mem_cons.1 hp with rfl | hp
  ·exact ⟨g1, hpp.left, h1⟩
  ·have w_ := Prs.at h2 p hp
   obtain ⟨g', h3, h4⟩ := w_
   exact ⟨g', h3.trans hpp.right, h4⟩
theorem Prs.zip : ∀ {xs : List X} {ys : List Value} {g : Mem}, OwnRows es (xs.map f) ys g → (∀ y ∈ ys, (vcells y).length = es ∧ ∀ u ∈ vcells y, u.oneCell' = true) → Prs es f (xs.zip ys) g ∧ (xs.zip ys).map Prod.fst = xs ∧ (xs.zip ys).map Prod.snd = ys := fun {xs ys g} h hz => by
 have hl : xs.length = ys.length := by simpa using h.len
 have e1 : (xs.zip ys).map Prod.fst = xs := by rw [List.map_fst_zip (by omega)]
 have e2 : (xs.zip ys).map Prod.snd = ys := by rw [List.map_snd_zip (by omega)]
 refine ⟨⟨?_, fun p hp => hz p.2 ?_⟩, e1, e2⟩
 ·have e3 : (xs.zip ys).map (fun p => f p.1) = xs.map f := by
   conv => rhs; rw [← e1, List.map_map]
   rfl
  rw [e2, e3]; exact h
 ·rw [← e2]; exact List.mem_map.2 ⟨p, hp, rfl⟩
end
section
variable {X : Type} {es : Nat} {f : X → D}
theorem Prs.nil : Prs es f [] Mem.nil := ⟨OwnRows.nil es, fun p hp => by simp at hp⟩
theorem Prs.sub {ps ps' : List (X × Value)} (h : ps'.Sublist ps) : ∀ {g : Mem}, Prs es f ps g → ∃ g' : Mem, g'.Le g ∧ Prs es f ps' g' := by
 induction h with
 | slnil => exact fun {g} h => ⟨g, Mem.Le.refl _, h⟩
 | cons p _ ih =>
  intro g h
  obtain ⟨g1, g2, hp, h1, hn, h2⟩ := h.uncons
  obtain ⟨g', h3, h4⟩ := ih h2
  exact ⟨g', h3.trans hp.right, h4⟩
 | cons_cons p _ ih =>
  intro g h
  obtain ⟨g1, g2, hp, h1, hn, h2⟩ := h.uncons
  obtain ⟨g', h3, h4⟩ := ih h2
  have ha : Apart g1 g' := fun b hb => by
   have := hp.apart b hb
   cases e : g' b with
   | none => rfl
   | some o => rw [h3 b o e] at this; cases this
  exact ⟨g1.join g', join_le hp.left (h3.trans hp.right), Prs.cons (Parts.join ha) h1 hn (h.size _ (by simp)) h4⟩
end
end Go.Vx
namespace Go.Vx
open Go.Proofs Classical
open Go.Sort
noncomputable instance : Inhabited B := ⟨⟨0, .nil⟩⟩
section
variable {μ h0 g : Mem} {r : Nat} {ty : TypeId} {rest : List Value}
end
end Go.Vx
namespace Go.Vx
open Go.Proofs Classical
open Go.Sort
def AscB (l : List B) : Prop := l.Pairwise fun a b => a.var < b.var
theorem Srt.asc {bs : List B} (h : Srt bs) : AscB bs := by
 rw [AscB, List.pairwise_iff_getElem]
 intro i j hi hj hij
 exact h i j _ _ hij (by simp) (by simp)
theorem AscB.srt {bs : List B} (h : AscB bs) : Srt bs := fun i j b c hij hb hc => by
 rw [AscB, List.pairwise_iff_getElem] at h
 have w_ := List.getElem?_eq_some_iff.1 hb
 obtain ⟨hi, rfl⟩ := w_
 have w_ := List.getElem?_eq_some_iff.1 hc
 obtain ⟨hj, rfl⟩ := w_
 exact h i j hi hj hij
theorem AscB.uniq {a b : B} {l : List B} (h : AscB l) (ha : a ∈ l) (hb : b ∈ l) (e : a.var = b.var) : a = b := by
 have w_ := List.mem_iff_getElem?.1 ha
 obtain ⟨i, hi⟩ := w_
 have w_ := List.mem_iff_getElem?.1 hb
 obtain ⟨j, hj⟩ := w_
 rcases Nat.lt_trichotomy i j with h1 | h1 | h1
 ·have := h.srt i j _ _ h1 hi hj; omega
 ·subst h1; rw [hi] at hj; cases hj; rfl
 ·have := h.srt j i _ _ h1 hj hi; omega
theorem AscB.nodup {l : List B} (h : AscB l) : (l.map B.var).Nodup := by
 rw [List.Nodup, List.pairwise_map]
 exact h.imp fun h => by omega
section
variable {μ : Mem}
end
end Go.Vx
namespace Go.Vx
open Go.Proofs Classical
noncomputable def unifL (E : List (T × T)) : Option (List B) := if h : ∃ bs, SolL bs E ∧ FitsL bs then some h.choose else none
theorem unifL_some {E : List (T × T)} {bs : List B} (h : SolL bs E) (k : FitsL bs) : unifL E = some bs := by
 have hx : ∃ bs, SolL bs E ∧ FitsL bs := ⟨bs, h, k⟩
 rw [unifL, dif_pos hx, hx.choose_spec.1.uniq h]
theorem unifL_none {E : List (T × T)} (h : ∀ bs, SolL bs E → ¬ FitsL bs) : unifL E = none := by
 rw [unifL, dif_neg]
 rintro ⟨bs, h1, h2⟩
 exact h bs h1 h2
end Go.Vx
namespace Go.Vx
open Go.Proofs Classical
theorem Out.never {E : List (T × T)} (h : ∀ t, ¬ SolvesE t E) : Out E none := fun _F _bt _ hE => absurd hE (h _)
theorem Out.unifL {E : List (T × T)} {o : Option (List B)} (h : Out E o) (k : ∀ bs, o = some bs → FitsL bs) : o = unifL E := by
 cases o with
 | none => exact (unifL_none fun bs hb hf => h E bs hb hb.sol.sol hf).symm
 | some bs => exact (unifL_some h (k bs rfl)).symm
end Go.Vx
namespace Go.Vx
open Go.Proofs Classical
theorem Cl.unifL {c : Cl} {N l : List Int} {P : T → Prop} {E : List (T × T)} {val : Int → T} (hg : c.Good) (hi : c.In N P) (hE : ∀ θ, c.Sol θ ↔ SolvesE θ E) (hv : c.IsVal val) (hl : l.Pairwise (· < ·)) (hN : ∀ n, n ∈ l ↔ n ∈ N) :
  Go.Vx.unifL E = if FitsL (valL val l) then some (valL val l) else none := by
 obtain ⟨rank, hok⟩ := hg
 have hS := valL_sol (hv.solved hok hE) hl fun v hn => (Cl.val_self hok hv v).2 ⟨hi.out v fun k => hn ((hN v).2 k), by
  cases e : c.shp v with
  | none => rfl
  | some t => exact absurd ((hN v).2 (hi.shp _ _ e).1) hn⟩
 by_cases hf : FitsL (valL val l)
 ·rw [if_pos hf]; exact unifL_some hS hf
 ·rw [if_neg hf]; exact unifL_none fun bs hb hf2 => hf (by rw [hS.uniq hb]; exact hf2)
theorem unifL_never {E : List (T × T)} (h : ∀ t, ¬ SolvesE t E) : Go.Vx.unifL E = none := unifL_none fun _ hb _ => h _ hb.sol.sol
theorem unifL_same {E F : List (T × T)} (h : ∀ t, SolvesE t E ↔ SolvesE t F) : Go.Vx.unifL E = Go.Vx.unifL F := by
 have key : ∀ {E F : List (T × T)}, (∀ t, SolvesE t E ↔ SolvesE t F) → ∀ {bs}, SolL bs E → SolL bs F := fun h bs k => ⟨k.srt, k.proper, k.sol.same h⟩
 unfold Go.Vx.unifL
 have e : (fun bs => SolL bs E ∧ FitsL bs) = (fun bs => SolL bs F ∧ FitsL bs) := funext fun bs => propext ⟨fun k => ⟨key h k.1, k.2⟩, fun k => ⟨key (fun t => (h t).symm) k.1, k.2⟩⟩
 simp only [e]
end Go.Vx
namespace Go.Vx
open Go.Proofs Classical
theorem SolO.unifL {Q : T → Prop} {E : List (T × T)} {o : Option (List B)} (h : SolO Q E o) : o = Go.Vx.unifL E := by
 cases o with
 | some y => exact (unifL_some h.1.sol h.2).symm
 | none =>
  rcases h with h | ⟨y, h1, h2⟩
  ·exact (unifL_never h).symm
  ·exact (unifL_none fun bs hb hf => h2 (by rw [h1.sol.uniq hb]; exact hf)).symm
section
variable {μ : Mem} {Q : T → Prop}
end
end Go.Vx
namespace Go.Vx
open Go.Proofs Classical
theorem T.lvs_pos : ∀ t : T, 1 ≤ t.lvs
 | .pair a b => by
  have := a.lvs_pos
  simp only [T.lvs]; omega
 | .nil => Nat.le_refl _
 | .var _ => Nat.le_refl _
 | .sym _ => Nat.le_refl _
 | .num _ => Nat.le_refl _
theorem occ_le (s : Int → T) : ∀ {t : T} {m : Int}, t.occ m → (s m).size ≤ (t.ap s).size
 | .pair a b, m, h => by
  show (s m).size ≤ 1 + (a.ap s).size + (b.ap s).size
  rcases h with h | h
  ·have := occ_le s h; omega
  ·have := occ_le s h; omega
 | .var n, m, h => by
  have h : n = m := h
  subst h
  exact Nat.le_refl _
theorem occ_size (s : Int → T) {t : T} {m : Int} (h : t.occ m) (hv : ∀ n, t ≠ .var n) : (s m).size < (t.ap s).size := by
 cases t with
 | var n => exact absurd rfl (hv n)
 | pair a b =>
  show (s m).size < 1 + (a.ap s).size + (b.ap s).size
  rcases h with h | h
  ·have := occ_le s h; omega
  ·have := occ_le s h; omega
 | nil => exact h.elim
 | sym _ => exact h.elim
 | num _ => exact h.elim
end Go.Vx
namespace Go.Vx
open Go.Proofs Classical
theorem mem_newB {s x : List B} {c : B} : c ∈ newB s x ↔ c ∈ x ∧ ∀ b ∈ s, b.var ≠ c.var := by
 rw [newB, List.mem_filter, decide_eq_true_eq]
theorem asF_out {x : List B} (h : Srt x) (hp : Proper x) {n : Int} (hn : ∀ b ∈ x, b.var ≠ n) : asF x n = .var n :=
 Classical.byContradiction fun k => by
  have w_ := (asF_bound h hp).1 k
  obtain ⟨b, hb, e⟩ := w_
  exact hn b hb e
theorem new_solves {s x : List B} {E : List (T × T)} (hs : Subst s) (hx : SolL x (eqsB s ++ E)) (θ : Int → T) : SolvesE θ (eqsB s ++ eqsB (newB s x)) ↔ SolvesE θ (eqsB s ++ E) := by
 constructor
 ·intro h
  have w_ := solves_append.1 h
  obtain ⟨h1, h2⟩ := w_
  have k1 := solves_eqsB.1 h1
  have k2 := solves_eqsB.1 h2
  have kx := solves_eqsB.1 (solves_append.1 hx.sol.sol).1
  have out : ∀ n, (∀ b ∈ s, b.var ≠ n) → (asF x n).ap θ = θ n := fun n hn => by
   by_cases k : ∃ c ∈ x, c.var = n
   ·obtain ⟨c, hc, rfl⟩ := k
    rw [asF_of_mem hx.srt hc]
    exact (k2 c (mem_newB.2 ⟨hc, hn⟩)).symm
   ·rw [asF_out hx.srt hx.proper fun c hc e => k ⟨c, hc, e⟩]; rfl
  have hab : ∀ n, (asF x n).ap θ = θ n := fun n => by
   by_cases k : ∃ b ∈ s, b.var = n
   ·obtain ⟨b, hb, rfl⟩ := k
    rw [kx b hb, T.ap_ap, k1 b hb]
    exact T.ap_congr fun m hm => out m (hs.free hb hm)
   ·exact out n fun b hb e => k ⟨b, hb, e⟩
  intro e he
  have h3 := hx.sol.sol e he
  have h4 : ∀ t : T, (t.ap (asF x)).ap θ = t.ap θ := fun t => by
   rw [T.ap_ap]
   exact T.ap_congr fun n _ => hab n
  rw [← h4 e.1, ← h4 e.2, h3]
 ·intro h
  refine solves_append.2 ⟨(solves_append.1 h).1, solves_eqsB.2 fun b hb => ?_⟩
  have h1 := hx.sol.gen θ h b.var
  rw [asF_of_mem hx.srt (mem_newB.1 hb).1] at h1
  exact h1.symm
theorem new_none {s x : List B} {E : List (T × T)} (hs : Subst s) (hx : SolL x (eqsB s ++ E)) (h : newB s x = []) : x = s := by
 have hS := hs.solL
 refine asF_inj hx.srt hS.srt hx.proper hS.proper (funext fun n => ?_)
 have out : ∀ n, (∀ b ∈ s, b.var ≠ n) → asF x n = .var n := fun n hn => asF_out hx.srt hx.proper fun c hc e => by
  have : c ∈ newB s x := mem_newB.2 ⟨hc, fun b hb k => hn b hb (k.trans e)⟩
  rw [h] at this
  cases this
 by_cases k : ∃ b ∈ s, b.var = n
 ·obtain ⟨b, hb, rfl⟩ := k
  have kx := solves_eqsB.1 (solves_append.1 hx.sol.sol).1 b hb
  rw [kx, asF_of_mem hS.srt hb]
  conv => rhs; rw [← T.ap_var b.to]
  exact T.ap_congr fun m hm => out m (hs.free hb hm)
 ·have k : ∀ b ∈ s, b.var ≠ n := fun b hb e => k ⟨b, hb, e⟩
  rw [out n k, asF_out hS.srt hS.proper k]
theorem new_again {s x : List B} {E : List (T × T)} (hs : Subst s) (hx : SolL x (eqsB s ++ E)) (hf : FitsL x) : unifL (eqsB s ++ eqsB (newB s x)) = some x := by
 rw [unifL_same (F := eqsB s ++ E) fun θ => new_solves hs hx θ]
 exact unifL_some hx hf
theorem new_equal {s x : List B} {a b : T} {θ : Int → T} (hs : Subst s) (hx : SolL x (eqsB s ++ [(a, b)])) (hθ : SolvesE θ (eqsB s)) : (∀ c ∈ newB s x, θ c.var = c.to.ap θ) ↔ a.ap θ = b.ap θ := by
 have h := new_solves hs hx θ
 rw [solves_append, solves_append, solves_eqsB (bs := newB s x)] at h
 have e : SolvesE θ [(a, b)] ↔ a.ap θ = b.ap θ := by simp [SolvesE]
 rw [e] at h
 exact ⟨fun k => (h.1 ⟨hθ, k⟩).2, fun k => (h.2 ⟨hθ, k⟩).2⟩
theorem same_equal {s : List B} {a b : T} {θ : Int → T} (hx : SolL s (eqsB s ++ [(a, b)])) (hθ : SolvesE θ (eqsB s)) (hs : Subst s) : a.ap θ = b.ap θ := by
 refine (new_equal hs hx hθ).1 fun c hc => ?_
 exact absurd rfl ((mem_newB.1 hc).2 c (mem_newB.1 hc).1)
end Go.Vx
namespace Go.Vx
open Go.Proofs Classical
theorem lvB_6 : lvB 6 = 4 := by rw [lvB, if_pos (by decide), lvB, if_pos (by decide), lvB, if_neg (by decide)]
theorem lvB_4 : lvB 4 = 2 := by rw [lvB, if_pos (by decide), lvB, if_neg (by decide)]
end Go.Vx
namespace Go.Vx
open Go.Proofs Classical
section
variable {μ : Mem}
theorem MakeTerm_spec {base : Option Addr} {n cap : Nat} (hb : Bytes μ base n) (m : Int) (hm : m ≤ 1000000) (size vars : Nat) (hs : size ≤ 1000) (hv : vars ≤ 1000) :
  Spec Try.prog 11 [.slice base n cap, .int .i64 m, .int .i64 size, .int .i64 vars] μ fun v μ' => ∃ t : T, RepV μ' t.tm.d v ∧ Drawn (lvB size) vars t := by
 refine Spec.mk Try.func11 (by kernel_rfl) ?_
 intro r1
 refine cOw (l43New_spec hb m hm) fun v μ1 h1 hle1 hap1 hR => ?_
 obtain ⟨e, r, rfl, ho, hc1⟩ := hR
 obtain rfl := e.symm
 refine cOw (l02Draw_spec vars hv size hs hc1.at) fun v μ2 h2 hle2 hap2 hR => ?_
 obtain ⟨hc2, t, ht, hd⟩ := hR
 have w_ := Tm.invV ht
 obtain ⟨p, rfl⟩ := w_
 exact rPl ⟨t, ht, hd⟩
theorem l05Alike_spec (vars : Nat) (hv : vars ≤ 1000) : ∀ (x : T) {μ h : Mem} {r : Nat} {v : Value}, RepV μ x.tm.d v → Drawn x.lvs vars x → Cur μ h r h →
  SpecH Try.prog 55 [.pointer (some ⟨r, 0, none⟩), v, .int .i64 vars] μ h fun v μ' h' => DrawnAt h r (2 * x.lvs) vars v μ' h' := by
 intro x
 induction x with
 | pair a b iha ihb =>
  intro μ h r v hx hd hc
  have w_ := Tm.inv hx
  obtain ⟨base', cap', rfl, hsa⟩ := w_
  have w_ := T.parts hsa
  obtain ⟨ad, ad', p, p', h1, h2, hra, hrb⟩ := w_
  refine SpecH.mk [] Try.func55 (by kernel_rfl) ?_
  intro r1 r2
  refine cOw (l01Once_spec hc 6) fun v μ1 g1 hle1 hap1 hR => ?_
  obtain ⟨e, hc1, c, rfl⟩ := hR
  obtain rfl := e.symm
  refine iIn (fun hb => ?_) (fun hb => ?_)
  ·refine cOw (l02Draw_spec vars hv 4 (by decide) hc1.at) fun v μ2 g2 hle2 hap2 hR => ?_
   obtain ⟨hc2, t, ht, hd2⟩ := hR
   have w_ := Tm.invV ht
   obtain ⟨q, rfl⟩ := w_
   refine rPl ⟨hc1.trans hc2, t, ht, hd2.mono ?_⟩
   rw [lvB_4]
   have := T.lvs_pos
   refine Nat.le_trans (m := 2 * 1) (by decide) (Nat.mul_le_mul_left 2 (T.lvs_pos _))
  ·refine ifd (fun h4 => ?_) (fun h4 => absurd rfl h4)
   have hda : Drawn a.lvs vars a := ⟨hd.good.1, fun n hn => hd.low n (.inl hn), Nat.le_refl _⟩
   have hdb : Drawn b.lvs vars b := ⟨hd.good.2, fun n hn => hd.low n (.inr hn), Nat.le_refl _⟩
   refine eIn h1 ?_
   refine cOw (iha hra hda hc1.at) fun v μ2 g2 hle2 hap2 hR => ?_
   obtain ⟨hc2, a', ha, hda'⟩ := hR
   have w_ := Tm.invV ha
   obtain ⟨q, rfl⟩ := w_
   intro r3
   refine eIn (h2.mono hle2) ?_
   refine cOw (ihb (hrb.mono hle2) hdb hc2.at) fun v μ3 g3 hle3 hap3 hR => ?_
   obtain ⟨hc3, b', hb', hdb'⟩ := hR
   refine cPl (l02Pair_spec (ha.mono hle3) hb') fun v μ4 hle4 hR => ?_
   have w_ := Tm.invV hR
   obtain ⟨q, rfl⟩ := w_
   refine rPl ⟨(hc1.trans (hc2.trans hc3)).mono hle4, .pair a' b', hR, ?_⟩
   have e : 2 * (T.pair a b).lvs = 2 * a.lvs + 2 * b.lvs := by simp only [T.lvs]; omega
   rw [e]
   exact hda'.pair hdb'
 | _ =>
  intro μ h r v hx hd hc
  have hx0 := hx
  have w_ := Tm.invV hx
  obtain ⟨p, rfl⟩ := w_
  refine SpecH.mk [] Try.func55 (by kernel_rfl) ?_
  intro r1 r2
  refine cOw (l01Once_spec hc 6) fun v μ1 g1 hle1 hap1 hR => ?_
  obtain ⟨e, hc1, c, rfl⟩ := hR
  obtain rfl := e.symm
  refine iIn (fun hb => ?_) (fun hb => ?_)
  ·refine cOw (l02Draw_spec vars hv 4 (by decide) hc1.at) fun v μ2 g2 hle2 hap2 hR => ?_
   obtain ⟨hc2, t, ht, hd2⟩ := hR
   have w_ := Tm.invV ht
   obtain ⟨q, rfl⟩ := w_
   refine rPl ⟨hc1.trans hc2, t, ht, hd2.mono ?_⟩
   rw [lvB_4]
   have := T.lvs_pos
   refine Nat.le_trans (m := 2 * 1) (by decide) (Nat.mul_le_mul_left 2 (T.lvs_pos _))
  ·refine ifd (fun h4 => absurd h4 (by simp [T.tm, Tm.kind])) (fun h4 => ?_)
   exact rPl ⟨hc1, _, hx, hd.mono (by omega)⟩
theorem MakeAlike_spec {base : Option Addr} {n cap : Nat} (hb : Bytes μ base n) (m : Int) (hm : m ≤ 1000000) (vars : Nat) (hv : vars ≤ 1000) {x : T} {k : Nat} {v : Value} (hx : RepV μ x.tm.d v) (hd : Drawn k vars x) :
  Spec Try.prog 12 [.slice base n cap, .int .i64 m, v, .int .i64 vars] μ fun v μ' => ∃ t : T, RepV μ' t.tm.d v ∧ Drawn (2 * k) vars t := by
 have w_ := Tm.invV hx
 obtain ⟨p, rfl⟩ := w_
 refine Spec.mk Try.func12 (by kernel_rfl) ?_
 intro r1 r2
 refine cOw (l43New_spec hb m hm) fun v μ1 h1 hle1 hap1 hR => ?_
 obtain ⟨e, r, rfl, ho, hc1⟩ := hR
 obtain rfl := e.symm
 refine cOw (l05Alike_spec vars hv x hx ⟨hd.good, hd.low, Nat.le_refl _⟩ hc1.at) fun v μ2 h2 hle2 hap2 hR => ?_
 obtain ⟨hc2, t, ht, hd2⟩ := hR
 have w_ := Tm.invV ht
 obtain ⟨p, rfl⟩ := w_
 exact rPl ⟨t, ht, hd2.mono (Nat.mul_le_mul_left 2 hd.lvs)⟩
theorem l04Draw_spec {h : Mem} {r : Nat} (hc : Cur μ h r h) : SpecH Try.prog 68 [.pointer (some ⟨r, 0, none⟩)] μ h fun v μ' h' => Cur μ' h r h' ∧ ∃ s : List B, DSub 4 8 4 4 s ∧ RepV μ' (.sl 5 ((s.map B.bd).map Bd.d)) v := by
 refine SpecH.mk [] Try.func68 (by kernel_rfl) ?_
 intro r0
 refine lIn (fun p : Nat × Option Nat × Nat × List Value × List B × Mem × Mem => 4 ≤ p.1 ∧ p.1 ≤ 8 ∧ μ.Le p.2.2.2.2.2.1 ∧ Cur p.2.2.2.2.2.1 h r p.2.2.2.2.2.2 ∧ DSub 4 p.1 4 4 p.2.2.2.2.1 ∧ Rows p.2.2.2.2.2.1 5 ((p.2.2.2.2.1.map B.bd).map Bd.d) p.2.2.2.1)
  (fun (i, b, c, ys, _, μ', h') => ⟨[(0, .val (.pointer (some ⟨r, 0, none⟩))), (3, .row 0 b ys.length c), (4, .val (.int .i64 i))], [(0, some (.row b c 56 5 ys))], 1, μ', h'⟩) (fun p => 8 - p.1)
  (4, some r0, 0, [], [], μ, h) ⟨Nat.le_refl _, by omega, Mem.Le.refl _, hc, DSub.nil _ _ _ _, .nil⟩ (fun (_, _, _, _, _, _, _) => ⟨rfl, rfl⟩) ⟨⟨rfl, rfl, rfl, trivial⟩, ⟨rfl, trivial⟩, rfl, rfl⟩ ?_
 rintro ⟨i, b, c, ys, s, μ1, h1⟩ ⟨hi0, hi, hle1, hc1, hs, hrows⟩
 dsimp only at hi0 hi hle1 hc1 hs hrows
 have hyl := hrows.len
 have hsl := hs.len
 rw [List.length_map, List.length_map] at hyl
 refine ifd (fun hlt => ?_) (fun hlt => ?_)
 ·refine cOw (l01Once_spec hc1.at 2) fun v μ2 h2 hle2 hap2 hR => ?_
  obtain ⟨e, hc2, c1, rfl⟩ := hR
  obtain rfl := e.symm
  refine iIn (fun hb => ?_) (fun hb => ?_)
  ·refine cOw (l02Draw_spec 4 (by omega) 6 (by decide) hc2.at) fun v μ2 h3 hle3 hap3 hR => ?_
   obtain ⟨hc3, t, ht, hd⟩ := hR
   have w_ := Tm.invV ht
   obtain ⟨q, rfl⟩ := w_
   intro r52
   refine gIn ?_ ?_ fun b' c' hb' => ?_
   ·show (ys.length + 1) * 64 ≤ _; omega
   ·exact Nat.le_trans (m := 100000000) (show ys.length + 1 ≤ _ by omega) (by decide)
   have hs' : DSub 4 ((i + 1 : Nat) : Int) 4 4 (s ++ [⟨i, t⟩]) := hs.snoc (by omega) (hd.mono (Nat.le_of_eq lvB_6))
   refine num64 (by omega) (by omega) ⟨(i + 1, b', c', _, s ++ [⟨i, t⟩], μ2, h3), ⟨by dsimp only; omega, by dsimp only; omega, hle1.trans hle3, hc1.trans (hc2.trans hc3), hs', ?_⟩, by dsimp only; omega, ⟨⟨rfl, rfl, rfl, trivial⟩, ⟨rfl, trivial⟩, rfl, rfl⟩⟩
   dsimp only
   rw [List.map_append, List.map_append]
   exact (hrows.mono hle3).append (Rows.one (RepV.bd ht) (Bd.d_n _))
  ·exact num64 (by omega) (by omega) ⟨(i + 1, b, c, ys, s, μ1, h2), ⟨by dsimp only; omega, by dsimp only; omega, hle1, hc1.trans hc2, hs.up (by dsimp only; omega), hrows⟩, by dsimp only; omega, ⟨⟨rfl, rfl, rfl, trivial⟩, ⟨rfl, trivial⟩, rfl, rfl⟩⟩
 ·obtain rfl : i = 8 := by omega
  refine rFz [0] fun μ2 hle2 hno hat => .inl ⟨hc1.mono hle2, s, hs, ?_⟩
  exact Rows.sl hat (hrows.mono hle2) (Nat.le_trans (m := 1000) (by omega) (by decide))
end
end Go.Vx
namespace Go.Vx
open Go.Proofs Classical
section
variable {μ : Mem}
theorem binds_spec {x y : List B} {base base2 : Option Addr} {cap cap2 : Nat} (hsl : Sl μ 5 base x.length ((x.map B.bd).map Bd.d)) (hsl2 : Sl μ 5 base2 y.length ((y.map B.bd).map Bd.d)) :
  Gives Try.prog 48 [.slice base x.length cap, .slice base2 y.length cap2] μ (.bool (decide (x = y))) := by
 have hn := maxLen_le hsl.max
 refine Spec.mk Try.func48 (by kernel_rfl) ?_
 refine ifnd (fun h4 => rGv (isF fun e => h4 (by rw [e])) rfl) (fun h4 => ?_)
 have h4 : x.length = y.length := by omega
 refine lIn (fun i : Nat => i ≤ x.length ∧ ∀ j a b, j < i → x[j]? = some a → y[j]? = some b → a = b)
  (fun i => ⟨[(1, .val (.slice base2 y.length cap2)), (12, .val (.slice base x.length cap)), (13, .val (.int .i64 x.length)), (14, .val (.int .i64 i))], [], 0, μ, Mem.nil⟩) (fun i => x.length - i)
  0 ⟨Nat.zero_le _, fun j a b hj => absurd hj (Nat.not_lt_zero _)⟩ (fun _ => ⟨rfl, rfl⟩) ⟨⟨rfl, rfl, rfl, rfl, trivial⟩, trivial, rfl, rfl⟩ ?_
 rintro i ⟨hi, heq⟩
 refine ifd (fun h => ?_) (fun h => ?_)
 rotate_left
 ·obtain rfl : i = x.length := by omega
  refine rGv (isT (list_eq_of h4 fun j a b ha hb => ?_)) rfl
  exact heq j a b (List.getElem?_eq_some_iff.1 ha).1 ha hb
 have w_ := aSo (l := x) (i := i) (by omega)
 obtain ⟨a, ha⟩ := w_
 have w_ := aSo (l := y) (i := i) (by omega)
 obtain ⟨b, hb⟩ := w_
 have w_ := B.elem hsl ha
 obtain ⟨ad, p, hel, hto⟩ := w_
 have w_ := B.elem hsl2 hb
 obtain ⟨ad2, p2, hel2, hto2⟩ := w_
 refine eIn hel ?_
 intro r3
 refine eIn hel2 ?_
 refine ifnd (fun h5 => rGv (isF fun e => h5 ?_) rfl) (fun h5 => ?_)
 ·subst e
  rw [ha] at hb
  cases hb; rfl
 refine eIn hel2 ?_
 refine cGv (same_spec a.to b.to hto hto2) ?_
 refine ifnd (fun h6 => rGv (isF fun e => h6 ?_) rfl) (fun h6 => ?_)
 ·subst e
  rw [ha] at hb
  cases hb; rfl
 have hab : a = b := by
  have h5 : a.var = b.var := h5
  cases a; cases b; simp_all
 refine num64 (by omega) (by omega) ⟨i + 1, ⟨by omega, fun j c d hj hc hd => ?_⟩, by omega, ⟨⟨rfl, rfl, rfl, rfl, trivial⟩, trivial, rfl, rfl⟩⟩
 rcases Nat.lt_or_ge j i with h6 | h6
 ·exact heq j c d h6 hc hd
 ·obtain rfl : j = i := by omega
  rw [ha] at hc
  rw [hb] at hd
  cases hc; cases hd
  exact hab
end
end Go.Vx
namespace Go.Vx
open Go.Proofs Classical
theorem solved_vals {s g : List B} {n : Nat} (hs : DSub 4 8 4 4 s) (h : GVals n 2 g) (hn : 4 ≤ n) : GVals n 8 (solved s g) := by
 refine ⟨by rw [solved, List.length_map, h.len], fun i b hb => ?_⟩
 rw [solved, List.getElem?_map] at hb
 cases e : g[i]? with
 | none => rw [e] at hb; cases hb
 | some c =>
  rw [e] at hb
  cases hb
  have h1 := h.get i c e
  refine ⟨h1.1, ?_⟩
  show Drawn 8 0 (match sub s c.var with | some t => t.ap (asF g) | none => c.to)
  cases e2 : sub s c.var with
  | none => exact h1.2.mono (by decide)
  | some t =>
   have h2 := hs.rng _ (sub_in e2)
   exact h2.2.2.ap (l := 2) (by decide) fun m h0 h1 => h.asF h0 (by omega)
theorem solved_asF {s g : List B} {n k : Nat} (h : GVals n k g) {m : Int} (h0 : 0 ≤ m) (h1 : m < n) : asF (solved s g) m = match sub s m with | some t => t.ap (asF g) | none => asF g m := by
 have w_ := aSo (l := g) (i := m.toNat) (by rw [h.len]; omega)
 obtain ⟨b, hb⟩ := w_
 have k1 := h.get _ b hb
 have e : b.var = m := by rw [k1.1]; omega
 have hs : Srt (solved s g) := fun i j c d hij hc hd => by
  rw [solved, List.getElem?_map] at hc hd
  cases e1 : g[i]? with
  | none => rw [e1] at hc; cases hc
  | some c' =>
   cases e2 : g[j]? with
   | none => rw [e2] at hd; cases hd
   | some d' =>
    rw [e1] at hc
    rw [e2] at hd
    cases hc; cases hd
    exact h.srt i j c' d' hij e1 e2
 have hm : B.mk b.var (match sub s b.var with | some t => t.ap (asF g) | none => b.to) ∈ solved s g := List.mem_map.2 ⟨b, mAt hb, rfl⟩
 have k2 := asF_of_mem hs hm
 have k3 := asF_of_mem h.srt (mAt hb)
 rw [e] at k2 k3
 simp only at k2
 rw [k2, k3]
theorem solved_solves {s g : List B} {n k : Nat} (hs : DSub 4 8 4 4 s) (h : GVals n k g) (hn : 8 ≤ n) : SolvesE (asF (solved s g)) (eqsB s) := by
 refine solves_eqsB.2 fun b hb => ?_
 have hr := hs.rng b hb
 rw [solved_asF h (by omega) (by omega), sub_of_mem (srt_of_pw hs.srt).pw hb]
 show b.to.ap (asF g) = b.to.ap (asF (solved s g))
 refine T.ap_congr fun m hm => ?_
 have hm := hr.2.2.low m hm
 rw [solved_asF h (by omega) (by omega)]
 cases e : sub s m with
 | none => rfl
 | some t =>
  have := hs.rng _ (sub_in e)
  simp only at this
  omega
section
variable {μ : Mem}
theorem MakeSolved_spec {base : Option Addr} {n cap : Nat} (hb : Bytes μ base n) (m : Int) (hm : m ≤ 1000000) :
  Spec Try.prog 22 [.slice base n cap, .int .i64 m] μ fun v μ' => ∃ (s g : List B) (u w : Value), v = .tuple #[u, w] ∧ DSub 4 8 4 4 s ∧ GVals 8 8 g ∧ SolvesE (asF g) (eqsB s) ∧ RepV μ' (.sl 5 ((s.map B.bd).map Bd.d)) u ∧ RepV μ' (.sl 5 ((g.map B.bd).map Bd.d)) w := by
 refine Spec.mk Try.func22 (by kernel_rfl) ?_
 refine cOw (l43New_spec hb m hm) fun v μ1 h1 hle1 hap1 hR => ?_
 obtain ⟨e, r, rfl, ho, hc1⟩ := hR
 obtain rfl := e.symm
 refine cOw (l04Draw_spec hc1.at) fun v μ2 h2 hle2 hap2 hR => ?_
 obtain ⟨hc2, s, hs, hrs⟩ := hR
 have w_ := Rep.sl hrs
 obtain ⟨bs, cs, rfl, hss⟩ := w_
 rw [List.length_map, List.length_map] at hss hrs ⊢
 refine cOw (l12Ground_spec hc2.at 8 (by decide)) fun v μ3 h3 hle3 hap3 hR => ?_
 obtain ⟨hc3, g, hg, hrg⟩ := hR
 have w_ := Rep.sl hrg
 obtain ⟨bg, cg, rfl, hsg⟩ := w_
 rw [List.length_map, List.length_map] at hsg ⊢
 replace hss := hss.mono hle3
 have hgl := hg.len
 intro r0
 refine lIn (fun p : Nat × Option Nat × Nat × List Value × Mem => p.1 ≤ g.length ∧ μ3.Le p.2.2.2.2 ∧ Rows p.2.2.2.2 5 ((((solved s g).take p.1).map B.bd).map Bd.d) p.2.2.2.1)
  (fun (i, b, c, ys, μ') => ⟨[(7, .val (.slice bs s.length cs)), (8, .val (.slice bg g.length cg)), (9, .row 0 b ys.length c), (22, .val (.slice bg g.length cg)), (23, .val (.int .i64 g.length)), (24, .val (.int .i64 i))], [(0, some (.row b c 56 5 ys))], 1, μ', h3⟩) (fun p => g.length - p.1)
  (0, some r0, 0, [], μ3) ⟨Nat.zero_le _, Mem.Le.refl _, .nil⟩ (fun (_, _, _, _, _) => ⟨rfl, rfl⟩) ⟨⟨rfl, rfl, rfl, rfl, rfl, rfl, trivial⟩, ⟨rfl, trivial⟩, rfl, rfl⟩ ?_
 rintro ⟨i, b, c, ys, μ4⟩ ⟨hi, hle4, hrows⟩
 dsimp only at hi hle4 hrows
 have hyl := hrows.len
 simp only [List.length_map, List.length_take, solved] at hyl
 refine ifd (fun hlt => ?_) (fun hlt => ?_)
 ·have w_ := aSo (l := g) (i := i) (by omega)
  obtain ⟨z, hz⟩ := w_
  have w_ := B.elem (hsg.mono hle4) hz
  obtain ⟨ad, p, hel, hto⟩ := w_
  refine eIn hel ?_
  intro r1
  refine cPl (l04Get_spec (hss.mono hle4)) fun v5 μ5 hle5 hR => ?_
  obtain ⟨hR, e5⟩ := hR
  obtain rfl := e5.symm
  have hR : optV (fun y tv => RepV μ4 y.tm.d tv) (sub s z.var) v5 := hR
  have hst : ∀ w : T, (match sub s z.var with | some t => t.ap (asF g) | none => z.to) = w → (solved s g)[i]? = some ⟨z.var, w⟩ := fun w e => by rw [solved, List.getElem?_map, hz, ← e]; rfl
  cases e : sub s z.var with
  | none =>
   rw [e] at hR hst
   obtain rfl := hR
   intro r2
   refine iIn (fun h => nomatch h) (fun _ => ?_)
   intro r3
   refine gIn ?_ ?_ fun b' c' hb' => ?_
   ·show (ys.length + 1) * 64 ≤ _; omega
   ·exact Nat.le_trans (m := 100000000) (show ys.length + 1 ≤ _ by omega) (by decide)
   refine num64 (by omega) (by omega) ⟨(i + 1, b', c', _, μ4), ⟨by dsimp only; omega, hle4, ?_⟩, by dsimp only; omega, ⟨⟨rfl, rfl, rfl, rfl, rfl, rfl, trivial⟩, ⟨rfl, trivial⟩, rfl, rfl⟩⟩
   dsimp only
   rw [List.take_add_one, hst _ rfl, Option.toList_some, List.map_append, List.map_append]
   exact (hrows.mono (Mem.Le.refl _)).append (Rows.one (RepV.bd hto) (Bd.d_n _))
  | some t =>
   rw [e] at hR hst
   obtain ⟨tv, rfl, htv⟩ := hR
   have w_ := Tm.invV htv
   obtain ⟨q, rfl⟩ := w_
   intro r2
   refine iIn (fun _ => ?_) (fun h => nomatch h)
   refine cPl (l04Put_spec t (hsg.mono hle4) htv) fun v6 μ6 hle6 hR6 => ?_
   have w_ := Tm.invV hR6
   obtain ⟨q6, rfl⟩ := w_
   have hst' : (solved s g)[i]? = some ⟨z.var, t.subst (sub g)⟩ := hst _ (by rw [subst_asF])
   intro r3
   refine gIn ?_ ?_ fun b' c' hb' => ?_
   ·show (ys.length + 1) * 64 ≤ _; omega
   ·exact Nat.le_trans (m := 100000000) (show ys.length + 1 ≤ _ by omega) (by decide)
   refine num64 (by omega) (by omega) ⟨(i + 1, b', c', _, μ6), ⟨by dsimp only; omega, hle4.trans hle6, ?_⟩, by dsimp only; omega, ⟨⟨rfl, rfl, rfl, rfl, rfl, rfl, trivial⟩, ⟨rfl, trivial⟩, rfl, rfl⟩⟩
   dsimp only
   rw [List.take_add_one, hst', Option.toList_some, List.map_append, List.map_append]
   exact (hrows.mono hle6).append (Rows.one (RepV.bd hR6) (Bd.d_n _))
 ·obtain rfl : i = g.length := by omega
  have e : (solved s g).take g.length = solved s g := List.take_of_length_le (by rw [solved, List.length_map]; exact Nat.le_refl _)
  rw [e] at hrows
  refine rFz [0] fun μ5 hle5 hno hat => .inl ⟨s, solved s g, _, _, rfl, hs, solved_vals hs hg (by omega), solved_solves hs hg (Nat.le_refl _), hrs.mono (hle3.trans (hle4.trans hle5)), ?_⟩
  exact Rows.sl hat (hrows.mono hle5) (Nat.le_trans (m := 1000) (by omega) (by decide))
end
end Go.Vx
namespace Go.Vx
open Go.Proofs Classical
section
variable {μ : Mem} {Q : T → Prop}
theorem Unify_spec {bs : List B} {a b : T} {va vb : Value} {b0 : Option Addr} {c0 : Nat} (hQ : ∀ a b, Q (.pair a b) → Q a ∧ Q b) (hQg : ∀ t, Q t → t.good) (hb : ∀ b ∈ bs, Q (.var b.var) ∧ Q b.to) (hQa : Q a) (hQb : Q b) (hS : Subst bs) (ha : a.ok) (hbk : b.ok)
  (hsb : Sl μ 5 b0 bs.length ((bs.map B.bd).map Bd.d)) (hva : RepV μ a.tm.d va) (hvb : RepV μ b.tm.d vb) :
  Spec Try.prog 16 [.slice b0 bs.length c0, va, vb] μ fun r μ' => ∃ o, optB (fun y tv => RepV μ' (.sl 5 ((y.map B.bd).map Bd.d)) tv) o r ∧ SolO Q (eqsB bs ++ [(a, b)]) o := by
 have w_ := Tm.invV hva
 obtain ⟨p, rfl⟩ := w_
 have w_ := Tm.invV hvb
 obtain ⟨q, rfl⟩ := w_
 have hk := impl_SubstOk_spec (l := bs.map B.bd) (cap := c0) (by rw [List.length_map]; exact hsb)
 rw [List.length_map] at hk
 refine Spec.mk Try.func16 (by kernel_rfl) ?_
 intro r1 r2
 refine cGv hk ?_
 refine ifnd (fun h => absurd ((substOk_iff bs).2 hS) h) (fun _ => ?_)
 refine cGv (impl_TermOk_spec a.tm hva) ?_
 refine ifnd (fun h => absurd ha.tm h) (fun _ => ?_)
 refine cGv (impl_TermOk_spec b.tm hvb) ?_
 refine ifnd (fun h => absurd hbk.tm h) (fun _ => ?_)
 intro r3 r4
 refine call_frz [2, 3] ?_
 intro μ1 hle1 hno1 hat1 μ2 hle2 hno2 hat2
 have hx : RepV μ2 (.sl 4 (([a].map T.tm).map Tm.d)) (.slice (some ⟨r3, 0, none⟩) 1 1) := RepV.mono hle2 (Rows.sl hat1 (Rows.one (hva.mono hle1) (Tm.d_n _)) (show 1 ≤ maxLen by decide))
 have hy : RepV μ2 (.sl 4 (([b].map T.tm).map Tm.d)) (.slice (some ⟨r4, 0, none⟩) 1 1) := Rows.sl hat2 (Rows.one (hvb.mono (hle1.trans hle2)) (Tm.d_n _)) (show 1 ≤ maxLen by decide)
 have w_ := Rep.sl hx
 obtain ⟨_, _, e1, hx⟩ := w_
 simp only [Value.slice.injEq] at e1
 have w_ := Rep.sl hy
 obtain ⟨_, _, e2, hy⟩ := w_
 simp only [Value.slice.injEq] at e2
 obtain ⟨rfl, _, rfl⟩ := e1
 obtain ⟨rfl, _, rfl⟩ := e2
 have hl := hS.vals.len
 have hsol := solution_spec (Q := Q) (xs := [a]) (ys := [b]) (c1 := 1) (c2 := 1) (c0 := c0) hQ hQg hb (fun x hx => by rw [List.mem_singleton.1 hx]; exact hQa) (fun x hx => by rw [List.mem_singleton.1 hx]; exact hQb) rfl (hsb.mono (hle1.trans hle2)) hx hy (by omega) (show 1 ≤ 1000000000 by decide)
 refine call_go hsol fun r μ3 hle3 hR => ?_
 obtain ⟨o, hR, hO⟩ := hR
 cases o with
 | some y =>
  obtain ⟨tv, rfl, hy⟩ := hR
  exact rPl ⟨some y, ⟨tv, rfl, hy⟩, hO⟩
 | none =>
  obtain rfl := hR
  exact rPl ⟨none, rfl, hO⟩
theorem equations_spec {bs : List B} {base : Option Addr} {cap : Nat} (hl : bs.length ≤ 1000000) (hsl : Sl μ 5 base bs.length ((bs.map B.bd).map Bd.d)) :
  Spec Try.prog 97 [.slice base bs.length cap] μ fun r μ' => ∃ b1 c1 b2 c2, r = .tuple #[.slice b1 bs.length c1, .slice b2 bs.length c2] ∧ Sl μ' 4 b1 bs.length (((bs.map fun b => T.var b.var).map T.tm).map Tm.d) ∧ Sl μ' 4 b2 bs.length (((bs.map B.to).map T.tm).map Tm.d) := by
 refine Spec.mk Try.func97 (by kernel_rfl) ?_
 intro r1 r2
 refine lIn (fun p : Nat × Option Nat × Nat × List Value × Option Nat × Nat × List Value => p.1 ≤ bs.length ∧ Rows μ 4 ((((bs.take p.1).map fun b => T.var b.var).map T.tm).map Tm.d) p.2.2.2.1 ∧ Rows μ 4 ((((bs.take p.1).map B.to).map T.tm).map Tm.d) p.2.2.2.2.2.2)
  (fun (i, b, c, xs, b', c', ys) => ⟨[(4, .row 0 b xs.length c), (5, .row 1 b' ys.length c'), (10, .val (.slice base bs.length cap)), (11, .val (.int .i64 bs.length)), (12, .val (.int .i64 i))], [(0, some (.row b c 27 4 xs)), (1, some (.row b' c' 27 4 ys))], 2, μ, Mem.nil⟩) (fun p => bs.length - p.1)
  (0, some r1, 0, [], some r2, 0, []) ⟨Nat.zero_le _, .nil, .nil⟩ (fun (_, _, _, _, _, _, _) => ⟨rfl, rfl⟩) ⟨⟨rfl, rfl, rfl, rfl, rfl, trivial⟩, ⟨rfl, rfl, trivial⟩, rfl, rfl⟩ ?_
 rintro ⟨i, b, c, xs, b', c', ys⟩ ⟨hi, hx, hy⟩
 dsimp only at hi hx hy
 have hxl := hx.len
 have hyl := hy.len
 simp only [List.length_map, List.length_take] at hxl hyl
 refine ifd (fun hlt => ?_) (fun hlt => ?_)
 ·have w_ := aSo (l := bs) (i := i) (by omega)
  obtain ⟨z, hz⟩ := w_
  have w_ := B.elem hsl hz
  obtain ⟨ad, p, hel, hto⟩ := w_
  refine eIn hel ?_
  intro r3
  refine cGv (variable_spec z.var) ?_
  intro r4
  refine gIn ?_ ?_ fun b3 c3 _ => ?_
  ·show (xs.length + 1) * 56 ≤ _; omega
  ·exact Nat.le_trans (m := 100000000) (show xs.length + 1 ≤ _ by omega) (by decide)
  intro r5
  refine gIn ?_ ?_ fun b4 c4 _ => ?_
  ·show (ys.length + 1) * 56 ≤ _; omega
  ·exact Nat.le_trans (m := 100000000) (show ys.length + 1 ≤ _ by omega) (by decide)
  refine num64 (by omega) (by omega) ⟨(i + 1, b3, c3, _, b4, c4, _), ⟨by dsimp only; omega, ?_, ?_⟩, by dsimp only; omega, ⟨⟨rfl, rfl, rfl, rfl, rfl, trivial⟩, ⟨rfl, rfl, trivial⟩, rfl, rfl⟩⟩
  ·dsimp only
   rw [List.take_add_one, hz, Option.toList_some, List.map_append, List.map_append, List.map_append]
   exact hx.append (Rows.one (varV_rep z.var) (Tm.d_n _))
  ·dsimp only
   rw [List.take_add_one, hz, Option.toList_some, List.map_append, List.map_append, List.map_append]
   exact hy.append (Rows.one hto (Tm.d_n _))
 ·obtain rfl : i = bs.length := by omega
  rw [List.take_length] at hx hy
  refine rFz [0, 1] fun μ1 hle1 hno1 hat1 μ2 hle2 hno2 hat2 => .inl ?_
  have hX := RepV.mono hle2 (Rows.sl hat1 (hx.mono hle1) (Nat.le_trans (m := 1000000) (by omega) (by decide)))
  have hY := Rows.sl hat2 (hy.mono (hle1.trans hle2)) (Nat.le_trans (m := 1000000) (by omega) (by decide))
  have w_ := Rep.sl hX
  obtain ⟨_, _, e1, hX⟩ := w_
  have w_ := Rep.sl hY
  obtain ⟨_, _, e2, hY⟩ := w_
  simp only [List.length_map] at e1 e2 hX hY
  exact ⟨_, _, _, _, by rw [e1, e2], hX, hY⟩
theorem zip_eqs : ∀ bs : List B, (bs.map fun b => T.var b.var).zip (bs.map B.to) = eqsB bs
 | [] => rfl
 | b :: bs => by
  show (T.var b.var, b.to) :: (bs.map fun b => T.var b.var).zip (bs.map B.to) = _
  rw [zip_eqs bs]; rfl
theorem JoinSubst_spec {bs cs : List B} {b0 b1 : Option Addr} {c0 c1 : Nat} (hQ : ∀ a b, Q (.pair a b) → Q a ∧ Q b) (hQg : ∀ t, Q t → t.good) (hb : ∀ b ∈ bs, Q (.var b.var) ∧ Q b.to) (hb2 : ∀ b ∈ cs, Q (.var b.var) ∧ Q b.to) (hS : Subst bs) (hS2 : Subst cs)
  (hsb : Sl μ 5 b0 bs.length ((bs.map B.bd).map Bd.d)) (hsc : Sl μ 5 b1 cs.length ((cs.map B.bd).map Bd.d)) :
  Spec Try.prog 47 [.slice b0 bs.length c0, .slice b1 cs.length c1] μ fun r μ' => ∃ o, optB (fun y tv => RepV μ' (.sl 5 ((y.map B.bd).map Bd.d)) tv) o r ∧ SolO Q (eqsB bs ++ eqsB cs) o := by
 have hk := impl_SubstOk_spec (l := bs.map B.bd) (cap := c0) (by rw [List.length_map]; exact hsb)
 have hk2 := impl_SubstOk_spec (l := cs.map B.bd) (cap := c1) (by rw [List.length_map]; exact hsc)
 rw [List.length_map] at hk hk2
 have hl := hS.vals.len
 have hl2 := hS2.vals.len
 refine Spec.mk Try.func47 (by kernel_rfl) ?_
 refine cGv hk ?_
 refine ifnd (fun h => absurd ((substOk_iff bs).2 hS) h) (fun _ => ?_)
 refine cGv hk2 ?_
 refine ifnd (fun h => absurd ((substOk_iff cs).2 hS2) h) (fun _ => ?_)
 refine cPl (equations_spec (by omega) hsc) fun v1 μ1 hle1 hR => ?_
 obtain ⟨d1, e1, d2, e2, rfl, hx, hy⟩ := hR
 have hsol := solution_spec (Q := Q) (xs := cs.map fun b => T.var b.var) (ys := cs.map B.to) (c0 := c0) (c1 := e1) (c2 := e2) (b1 := d1) (b2 := d2) hQ hQg hb (fun x hx => by
  have w_ := List.mem_map.1 hx
  obtain ⟨b, hb, rfl⟩ := w_
  exact (hb2 b hb).1) (fun x hx => by
  have w_ := List.mem_map.1 hx
  obtain ⟨b, hb, rfl⟩ := w_
  exact (hb2 b hb).2) (by rw [List.length_map, List.length_map]) (hsb.mono hle1) (by rw [List.length_map]; exact hx) (by rw [List.length_map]; exact hy) (by omega) (by rw [List.length_map]; omega)
 rw [zip_eqs, List.length_map, List.length_map] at hsol
 refine cPl hsol fun r μ3 hle3 hR => ?_
 obtain ⟨o, hR, hO⟩ := hR
 cases o with
 | some y =>
  obtain ⟨tv, rfl, hy⟩ := hR
  exact rPl ⟨some y, ⟨tv, rfl, hy⟩, hO⟩
 | none =>
  obtain rfl := hR
  exact rPl ⟨none, rfl, hO⟩
end
end Go.Vx
namespace Go.Vx
open Go.Proofs Classical
section
variable {μ : Mem}
theorem NewBindings_spec {s x : List B} {b0 b1 : Option Addr} {c0 c1 : Nat} (hS : Subst s) (hX : Subst x) (hss : Sl μ 5 b0 s.length ((s.map B.bd).map Bd.d)) (hsx : Sl μ 5 b1 x.length ((x.map B.bd).map Bd.d)) :
  Spec Try.prog 49 [.slice b0 s.length c0, .slice b1 x.length c1] μ fun v μ' => Fresh μ μ' (.sl 5 (((newB s x).map B.bd).map Bd.d)) v := by
 have hk := impl_SubstOk_spec (l := s.map B.bd) (cap := c0) (by rw [List.length_map]; exact hss)
 have hk2 := impl_SubstOk_spec (l := x.map B.bd) (cap := c1) (by rw [List.length_map]; exact hsx)
 rw [List.length_map] at hk hk2
 have hl := hS.vals.len
 have hl2 := hX.vals.len
 refine Spec.mkO [16] Try.func49 (by kernel_rfl) ?_
 refine cGv hk ?_
 refine ifnd (fun h => absurd ((substOk_iff s).2 hS) h) (fun _ => ?_)
 refine cGv hk2 ?_
 refine ifnd (fun h => absurd ((substOk_iff x).2 hX) h) (fun _ => ?_)
 intro r6 hm6 ho6
 refine lIn (fun p : Nat × Nat × Nat × Nat × List Value × Mem × Mem => p.1 ≤ x.length ∧ p.2.2.2.2.1.length = p.2.2.2.1 ∧ RowO p.2.2.2.2.2.2 p.2.1 p.2.2.1 56 5 p.2.2.2.2.1 ∧ Apart p.2.2.2.2.2.1 p.2.2.2.2.2.2 ∧ μ.Le p.2.2.2.2.2.1 ∧ Grown 5 μ p.2.2.2.2.2.1 (((newB s (x.take p.1)).map B.bd).map Bd.d) p.2.2.2.2.1)
  (fun (i, b, c, m, ys, μ', h) => ⟨[(0, .val (.slice b0 s.length c0)), (5, .val (.slice (some ⟨b, 0, none⟩) m c)), (17, .val (.slice b1 x.length c1)), (18, .val (.int .i64 x.length)), (19, .val (.int .i64 i))], [], 0, μ', h⟩) (fun p => x.length - p.1)
  (0, r6, 0, 0, [], μ, _) ⟨by simp, rfl, ⟨[], Mem.set_at _ _ _, by simp, by simp, by simp, rfl, rfl⟩, (apart_nil μ).set hm6, Mem.Le.refl _, Grown.nil _ _ _⟩ (fun (_, _, _, _, _, _, _) => ⟨rfl, rfl⟩) ⟨⟨rfl, rfl, rfl, rfl, rfl, trivial⟩, trivial, rfl, rfl⟩ ?_
 clear hm6 ho6
 rintro ⟨i, b, c, m, ys, μ', h⟩ ⟨hi, hm, hb, hap, hle, hgr⟩
 dsimp only at hi hm hb hap hle hgr
 have hyl := hgr.len
 have hfl : (newB s (x.take i)).length ≤ x.length := Nat.le_trans (List.length_filter_le _ _) (by rw [List.length_take]; omega)
 simp only [List.length_map] at hyl
 refine ifd (fun hlt => ?_) (fun hlt => ?_)
 ·have w_ := aSo (l := x) (i := i) (by omega)
  obtain ⟨z, hz⟩ := w_
  have w_ := B.elem (hsx.mono hle) hz
  obtain ⟨ad, p, hel, hto⟩ := w_
  have hrest : newB s (x.take (i + 1)) = newB s (x.take i) ++ if (∀ b ∈ s, b.var ≠ z.var) then [z] else [] := by
   rw [newB, List.take_add_one, hz, Option.toList_some, List.filter_append, newB]
   congr 1
   by_cases h : ∀ b ∈ s, b.var ≠ z.var
   ·rw [if_pos h, List.filter_cons, if_pos (decide_eq_true h)]; rfl
   ·rw [if_neg h, List.filter_cons, if_neg (by simpa using h)]; rfl
  refine eIn hel ?_
  intro r12
  refine cDa hap (find_spec hS.vals.srt (by omega) (hss.mono hle)) fun v1 μ1 hle1 hap1 hR => ?_
  obtain ⟨hF, e5⟩ := hR
  obtain rfl := e5.symm
  rcases hF with ⟨k, w, rfl, hw, hwv⟩ | ⟨rfl, hno⟩
  ·refine ifd (fun h => by omega) (fun _ => ?_)
   rw [if_neg (fun k => k w (mAt hw) hwv), List.append_nil] at hrest
   refine num64 (by omega) (by omega) ⟨(i + 1, b, c, m, ys, μ', h), ⟨by dsimp only; omega, hm, hb, hap, hle, by dsimp only; rw [hrest]; exact hgr⟩, by dsimp only; omega, ⟨⟨rfl, rfl, rfl, rfl, rfl, trivial⟩, trivial, rfl, rfl⟩⟩
  ·refine ifd (fun _ => ?_) (fun h => absurd (by decide) h)
   have hno : ∀ b ∈ s, b.var ≠ z.var := hno
   rw [if_pos hno] at hrest
   refine cDa hap (copyTerm_spec z.to hto) fun v1 μ1 hle1 hap1 hR => ?_
   have w_ := Tm.invV hR.rep
   obtain ⟨q, rfl⟩ := w_
   refine fun r73 => ?_
   refine app_intro ys hm hb ?_ ?_ fun b' c' o hrow hor => ?_
   ·show (m + 1) * 64 ≤ _; omega
   ·exact Nat.le_trans (m := 100000000) (show m + 1 ≤ _ by omega) (by decide)
   refine num64 (by omega) (by omega) ⟨(i + 1, b', c', m + 1, _, μ1, _), ⟨by dsimp only; omega, by dsimp only; rw [List.length_append, hm]; rfl, hrow, hap1.set (apartB hb hap1 hor), hle.trans hle1, ?_⟩, by dsimp only; omega, ⟨⟨rfl, rfl, rfl, rfl, rfl, trivial⟩, trivial, rfl, rfl⟩⟩
   dsimp only
   rw [hrest, List.map_append, List.map_append]
   exact hgr.snoc hle (Fresh.bd hR hle1) hle1 (Bd.d_n _)
 ·obtain rfl : i = x.length := by omega
  rw [List.take_length] at hgr
  refine ret_own _ Mem.nil (Parts.nil_right _) ?_
  obtain ⟨cs, hcell, hlen0, hcap, hone, hcs, htake⟩ := hb
  have hb2 : μ' b = none := by
   cases e : μ' b with
   | none => rfl
   | some o => have := hap b (by simp [e]); rw [hcell] at this; cases this
  have hrow : RowAt (μ'.join h) (some b) c 5 ys := ⟨hlen0, hone, _, _, by rw [Mem.join_get, hb2]; exact hcell, by simpa using hcs, by simpa using htake⟩
  subst hm
  exact hgr.fresh hle (Mem.le_join _ _) (fun r e => by cases e; exact hb2) hrow (Nat.le_trans (m := 100000000) (by omega) (by decide))
theorem equalBindings_spec {x y : List B} {base base2 : Option Addr} {cap cap2 : Nat} (hsl : Sl μ 5 base x.length ((x.map B.bd).map Bd.d)) (hsl2 : Sl μ 5 base2 y.length ((y.map B.bd).map Bd.d)) :
  Gives Try.prog 129 [.slice base x.length cap, .slice base2 y.length cap2] μ (.bool (decide (x = y))) := by
 have hn := maxLen_le hsl.max
 refine Spec.mk Try.func129 (by kernel_rfl) ?_
 refine ifnd (fun h4 => rGv (isF fun e => h4 (by rw [e])) rfl) (fun h4 => ?_)
 have h4 : x.length = y.length := by omega
 refine lIn (fun i : Nat => i ≤ x.length ∧ ∀ j a b, j < i → x[j]? = some a → y[j]? = some b → a = b)
  (fun i => ⟨[(0, .val (.slice base x.length cap)), (1, .val (.slice base2 y.length cap2)), (12, .val (.int .i64 x.length)), (13, .val (.int .i64 i))], [], 0, μ, Mem.nil⟩) (fun i => x.length - i)
  0 ⟨Nat.zero_le _, fun j a b hj => absurd hj (Nat.not_lt_zero _)⟩ (fun _ => ⟨rfl, rfl⟩) ⟨⟨rfl, rfl, rfl, rfl, trivial⟩, trivial, rfl, rfl⟩ ?_
 rintro i ⟨hi, heq⟩
 refine ifd (fun h => ?_) (fun h => ?_)
 rotate_left
 ·obtain rfl : i = x.length := by omega
  refine rGv (isT (list_eq_of h4 fun j a b ha hb => ?_)) rfl
  exact heq j a b (List.getElem?_eq_some_iff.1 ha).1 ha hb
 have w_ := aSo (l := x) (i := i) (by omega)
 obtain ⟨a, ha⟩ := w_
 have w_ := aSo (l := y) (i := i) (by omega)
 obtain ⟨b, hb⟩ := w_
 have w_ := B.elem hsl ha
 obtain ⟨ad, p, hel, hto⟩ := w_
 have w_ := B.elem hsl2 hb
 obtain ⟨ad2, p2, hel2, hto2⟩ := w_
 refine eIn hel ?_
 refine eIn hel2 ?_
 refine ifnd (fun h5 => rGv (isF fun e => h5 ?_) rfl) (fun h5 => ?_)
 ·subst e
  rw [ha] at hb
  cases hb; rfl
 refine eIn hel ?_
 refine eIn hel2 ?_
 refine cGv (equalTerms_spec a.to b.to hto hto2) ?_
 refine ifnd (fun h6 => rGv (isF fun e => h6 ?_) rfl) (fun h6 => ?_)
 ·subst e
  rw [ha] at hb
  cases hb; rfl
 have hab : a = b := by
  have h5 : a.var = b.var := h5
  cases a; cases b; simp_all
 refine num64 (by omega) (by omega) ⟨i + 1, ⟨by omega, fun j c d hj hc hd => ?_⟩, by omega, ⟨⟨rfl, rfl, rfl, rfl, trivial⟩, trivial, rfl, rfl⟩⟩
 rcases Nat.lt_or_ge j i with h6 | h6
 ·exact heq j c d h6 hc hd
 ·obtain rfl : j = i := by omega
  rw [ha] at hc
  rw [hb] at hd
  cases hc; cases hd
  exact hab
inductive RestR (s : List B) (μ' : Mem) : Option (List B) → Value → Prop where
 | never : RestR s μ' none (.tuple #[.slice none 0 0, .int .i64 1])
 | always : RestR s μ' (some s) (.tuple #[.slice none 0 0, .int .i64 2])
 | rest (x : List B) (v : Value) (h : x ≠ s) (hv : RepV μ' (.sl 5 (((newB s x).map B.bd).map Bd.d)) v) : RestR s μ' (some x) (.tuple #[v, .int .i64 0])
theorem rest_spec {s : List B} {o : Option (List B)} {b0 : Option Addr} {c0 : Nat} {v w : Value} (hS : Subst s) (hX : ∀ x, o = some x → Subst x) (hss : Sl μ 5 b0 s.length ((s.map B.bd).map Bd.d)) (ho : optB (fun y tv => RepV μ (.sl 5 ((y.map B.bd).map Bd.d)) tv) o (.tuple #[v, w])) :
  Spec Try.prog 99 [.slice b0 s.length c0, v, w] μ fun r μ' => RestR s μ' o r := by
 refine Spec.mk Try.func99 (by kernel_rfl) ?_
 cases o with
 | none =>
  have ho : Value.tuple #[v, w] = .tuple #[.slice none 0 0, .bool false] := ho
  simp only [Value.tuple.injEq, Array.mk.injEq, List.cons.injEq, and_true] at ho
  obtain ⟨rfl, rfl⟩ := ho
  refine iIn (fun _ => rPl .never) (fun h => nomatch h)
 | some x =>
  obtain ⟨tv, e, hx⟩ := ho
  simp only [Value.tuple.injEq, Array.mk.injEq, List.cons.injEq, and_true] at e
  obtain ⟨rfl, rfl⟩ := e
  have w_ := Rep.sl hx
  obtain ⟨b1, c1, rfl, hsx⟩ := w_
  rw [List.length_map, List.length_map] at hsx ⊢
  refine iIn (fun h => nomatch h) (fun _ => ?_)
  refine cGv (equalBindings_spec hss hsx) ?_
  refine ifd (fun h => ?_) (fun h => ?_)
  ·subst h; exact rPl .always
  ·refine cPl (NewBindings_spec hS (hX x rfl) hss hsx) fun v2 μ2 hle2 hR => ?_
   exact rPl (.rest x v2 (fun e => h e.symm) hR.rep)
theorem SolO.substs {Q : T → Prop} {E : List (T × T)} {o : Option (List B)} (h : SolO Q E o) : ∀ x, o = some x → Subst x := fun x e => by
 subst e
 exact h.1.sol.subst h.2 h.1.good
theorem optB_tuple {P : List B → Value → Prop} {o : Option (List B)} {r : Value} (h : optB P o r) : ∃ u w, r = .tuple #[u, w] := by
 cases o with
 | none => exact ⟨_, _, h⟩
 | some x =>
  obtain ⟨tv, e, _⟩ := h
  exact ⟨_, _, e⟩
theorem Disequality_spec {Q : T → Prop} {bs : List B} {a b : T} {va vb : Value} {b0 : Option Addr} {c0 : Nat} (hQ : ∀ a b, Q (.pair a b) → Q a ∧ Q b) (hQg : ∀ t, Q t → t.good) (hb : ∀ b ∈ bs, Q (.var b.var) ∧ Q b.to) (hQa : Q a) (hQb : Q b) (hS : Subst bs) (ha : a.ok) (hbk : b.ok)
  (hsb : Sl μ 5 b0 bs.length ((bs.map B.bd).map Bd.d)) (hva : RepV μ a.tm.d va) (hvb : RepV μ b.tm.d vb) :
  Spec Try.prog 50 [.slice b0 bs.length c0, va, vb] μ fun r μ' => ∃ o, RestR bs μ' o r ∧ SolO Q (eqsB bs ++ [(a, b)]) o := by
 have w_ := Tm.invV hva
 obtain ⟨p, rfl⟩ := w_
 have w_ := Tm.invV hvb
 obtain ⟨q, rfl⟩ := w_
 have hk := impl_SubstOk_spec (l := bs.map B.bd) (cap := c0) (by rw [List.length_map]; exact hsb)
 rw [List.length_map] at hk
 refine Spec.mk Try.func50 (by kernel_rfl) ?_
 intro r1 r2
 refine cGv hk ?_
 refine ifnd (fun h => absurd ((substOk_iff bs).2 hS) h) (fun _ => ?_)
 refine cGv (impl_TermOk_spec a.tm hva) ?_
 refine ifnd (fun h => absurd ha.tm h) (fun _ => ?_)
 refine cGv (impl_TermOk_spec b.tm hvb) ?_
 refine ifnd (fun h => absurd hbk.tm h) (fun _ => ?_)
 refine cPl (Unify_spec hQ hQg hb hQa hQb hS ha hbk hsb hva hvb) fun r μ1 hle1 hR => ?_
 obtain ⟨o, hR, hO⟩ := hR
 have w_ := optB_tuple hR
 obtain ⟨u, w, rfl⟩ := w_
 refine cPl (rest_spec hS hO.substs (hsb.mono hle1) hR) fun r2 μ2 hle2 hR2 => ?_
 cases hR2 with
 | never => exact rPl ⟨none, .never, hO⟩
 | always => exact rPl ⟨some _, .always, hO⟩
 | rest x v h hv => exact rPl ⟨some x, .rest x v h hv, hO⟩
theorem NormalDisequality_spec {Q : T → Prop} {bs cs : List B} {b0 b1 : Option Addr} {c0 c1 : Nat} (hQ : ∀ a b, Q (.pair a b) → Q a ∧ Q b) (hQg : ∀ t, Q t → t.good) (hb : ∀ b ∈ bs, Q (.var b.var) ∧ Q b.to) (hb2 : ∀ b ∈ cs, Q (.var b.var) ∧ Q b.to) (hS : Subst bs) (hS2 : Subst cs)
  (hsb : Sl μ 5 b0 bs.length ((bs.map B.bd).map Bd.d)) (hsc : Sl μ 5 b1 cs.length ((cs.map B.bd).map Bd.d)) :
  Spec Try.prog 51 [.slice b0 bs.length c0, .slice b1 cs.length c1] μ fun r μ' => ∃ o, RestR bs μ' o r ∧ SolO Q (eqsB bs ++ eqsB cs) o := by
 have hk := impl_SubstOk_spec (l := bs.map B.bd) (cap := c0) (by rw [List.length_map]; exact hsb)
 have hk2 := impl_SubstOk_spec (l := cs.map B.bd) (cap := c1) (by rw [List.length_map]; exact hsc)
 rw [List.length_map] at hk hk2
 refine Spec.mk Try.func51 (by kernel_rfl) ?_
 refine cGv hk ?_
 refine ifnd (fun h => absurd ((substOk_iff bs).2 hS) h) (fun _ => ?_)
 refine cGv hk2 ?_
 refine ifnd (fun h => absurd ((substOk_iff cs).2 hS2) h) (fun _ => ?_)
 refine cPl (JoinSubst_spec hQ hQg hb hb2 hS hS2 hsb hsc) fun r μ1 hle1 hR => ?_
 obtain ⟨o, hR, hO⟩ := hR
 have w_ := optB_tuple hR
 obtain ⟨u, w, rfl⟩ := w_
 refine cPl (rest_spec hS hO.substs (hsb.mono hle1) hR) fun r2 μ2 hle2 hR2 => ?_
 cases hR2 with
 | never => exact rPl ⟨none, .never, hO⟩
 | always => exact rPl ⟨some _, .always, hO⟩
 | rest x v h hv => exact rPl ⟨some x, .rest x v h hv, hO⟩
end
end Go.Vx
namespace Go.Vx
open Go.Proofs Classical
structure SideT (t : List B) : Prop where
 subst : Subst t
 rng : ∀ b ∈ t, 0 ≤ b.var ∧ b.var < 8 ∧ Drawn 4 4 b.to
 len : t.length ≤ 4
theorem DSub.side {s : List B} (h : DSub 4 8 4 4 s) : SideT s :=
 ⟨h.subst (by decide) (by decide) (by decide) (by decide), fun b hb => by have k := h.rng b hb; exact ⟨by omega, k.2.1, k.2.2⟩, by have := h.len; omega⟩
def QJ (t : T) : Prop := t.good ∧ ((∃ n, t = .var n) ∨ (t.lvs ≤ 4 ∧ ∀ n, t.occ n → 0 ≤ n ∧ n < 4))
theorem QJ.pair (a b : T) (h : QJ (.pair a b)) : QJ a ∧ QJ b := by
 obtain ⟨h1, ⟨n, h2⟩ | ⟨h2, h3⟩⟩ := h
 ·cases h2
 ·have h2 : a.lvs + b.lvs ≤ 4 := h2
  exact ⟨⟨h1.1, .inr ⟨by omega, fun n hn => h3 n (.inl hn)⟩⟩, ⟨h1.2, .inr ⟨by omega, fun n hn => h3 n (.inr hn)⟩⟩⟩
theorem evars_eqsB {t : List B} {k : Nat} (h : ∀ b ∈ t, b.to.lvs ≤ k) : (evars (eqsB t)).length ≤ t.length * (k + 1) := by
 induction t with
 | nil => exact Nat.zero_le _
 | cons b t ih =>
  have e : evars (eqsB (b :: t)) = (b.var :: b.to.vars) ++ evars (eqsB t) := rfl
  have h1 := ih fun c hc => h c (by simp [hc])
  have h2 := h b (by simp)
  have h3 := b.to.vars_lvs
  rw [e, List.length_append, List.length_cons, List.length_cons, Nat.add_mul]
  omega
theorem SideT.evars {t : List B} (h : SideT t) : (∀ v ∈ evars (eqsB t), 0 ≤ v ∧ v < 8) ∧ (Go.Vx.evars (eqsB t)).length ≤ 20 := by
 constructor
 ·intro v hv
  unfold Go.Vx.evars at hv
  have w_ := List.mem_flatMap.1 hv
  obtain ⟨e, he, hv⟩ := w_
  have w_ := List.mem_map.1 he
  obtain ⟨b, hb, rfl⟩ := w_
  have k := h.rng b hb
  rcases List.mem_append.1 hv with hv | hv
  ·have : v = b.var := by simpa [T.vars] using hv
   omega
  ·have := k.2.2.low v (T.occ_vars.2 hv)
   omega
 ·have := evars_eqsB (k := 4) fun b hb => (h.rng b hb).2.2.lvs
  have h2 := h.len
  have h3 := Nat.mul_le_mul_right (4 + 1) h2
  omega
section
variable {μ : Mem}
end
end Go.Vx
namespace Go.Vx
open Go.Proofs Classical
def QD (t : T) : Prop := t.good ∧ t.lvs ≤ 8 ∧ ∀ n, t.occ n → 0 ≤ n ∧ n < 8
theorem QD.pair (a b : T) (h : QD (.pair a b)) : QD a ∧ QD b := by
 obtain ⟨h1, h2, h3⟩ := h
 have h2 : a.lvs + b.lvs ≤ 8 := h2
 exact ⟨⟨h1.1, by omega, fun n hn => h3 n (.inl hn)⟩, ⟨h1.2, by omega, fun n hn => h3 n (.inr hn)⟩⟩
theorem Drawn.qd {k : Nat} {vars : Int} {t : T} (h : Drawn k vars t) (hk : k ≤ 8) (hv : vars ≤ 8) : QD t := ⟨h.good, Nat.le_trans h.lvs hk, fun n hn => by have := h.low n hn; omega⟩
theorem SideT.qd {t : List B} (h : SideT t) : ∀ b ∈ t, QD (.var b.var) ∧ QD b.to := fun b hb => by
 have k := h.rng b hb
 exact ⟨⟨by show 0 ≤ b.var ∧ b.var ≤ 100000; omega, by show 1 ≤ 8; decide, fun n hn => by have hn : b.var = n := hn; omega⟩, k.2.2.qd (by decide) (by decide)⟩
theorem fail_small {s x : List B} {a b : T} {g : List B} (hs : Subst s) (hx : SolI QD (eqsB s ++ [(a, b)]) x) (hg : GVals 8 8 g) (hθ : SolvesE (asF g) (eqsB s)) :
  ∀ (N : Nat), ∀ c ∈ newB s x, c.to.size ≤ N → asF g c.var ≠ c.to.ap (asF g) → ∃ d ∈ newB s x, asF g d.var ≠ d.to.ap (asF g) ∧ (d.to.ap (asF g)).size ≤ 5000 := fun N => by
 induction N with
 | zero => exact fun c _ h _ => absurd h (by have := c.to.size_pos; omega)
 | succ N ih =>
  intro c hc hN hne
  by_cases hall : ∀ d ∈ newB s x, d.to.size < c.to.size → asF g d.var = d.to.ap (asF g)
  ·refine ⟨c, hc, hne, ?_⟩
   have hX := hx.sol.srt
   have hcx := (mem_newB.1 hc).1
   have ecx := asF_of_mem hX hcx
   have out : ∀ n, (∀ e ∈ s, e.var ≠ n) → (asF x n).size < c.to.size → (asF x n).ap (asF g) = asF g n := fun n hn hl => by
    by_cases k : ∃ e ∈ x, e.var = n
    ·obtain ⟨e, he, rfl⟩ := k
     rw [asF_of_mem hX he] at hl ⊢
     exact (hall e (mem_newB.2 ⟨he, hn⟩) hl).symm
    ·rw [asF_out hX hx.sol.proper fun e he k2 => k ⟨e, he, k2⟩]; rfl
   have ks := solves_eqsB.1 (solves_append.1 hx.sol.sol.sol).1
   have kt := solves_eqsB.1 hθ
   have any : ∀ n, (asF x n).size < c.to.size → (asF x n).ap (asF g) = asF g n := fun n hl => by
    by_cases k : ∃ e ∈ s, e.var = n
    ·obtain ⟨e, he, rfl⟩ := k
     rw [ks e he] at hl ⊢
     rw [T.ap_ap, kt e he]
     exact T.ap_congr fun m hm => out m (hs.free he hm) (Nat.lt_of_le_of_lt (occ_le (asF x) hm) hl)
    ·exact out n (fun e he k2 => k ⟨e, he, k2⟩) hl
   have hgood := hx.good c hcx
   rcases hx.built c.var with ⟨m, hm⟩ | ⟨t, hQ, hv, ht⟩
   ·rw [ecx] at hm
    rw [hm]
    rw [hm] at hgood
    show (asF g m).size ≤ 5000
    by_cases k : m < 8
    ·have := (hg.asF hgood.1.1 (by omega)).size; omega
    ·rw [hg.out (by omega)]; show 1 ≤ 5000; decide
   ·rw [ecx] at ht
    have e : c.to.ap (asF g) = t.ap (asF g) := by
     rw [ht, T.ap_ap]
     exact T.ap_congr fun n hn => any n (by rw [ht]; exact occ_size (asF x) hn hv)
    rw [e]
    have h1 := lvs_ap (s := asF g) (M := 8) (by decide) t fun n hn => (hg.asF (hQ.2.2 n hn).1 (by have := (hQ.2.2 n hn).2; omega)).lvs
    have h2 := (t.ap (asF g)).size_lvs
    have h3 := hQ.2.1
    omega
  ·have ⟨d, hd⟩ := Classical.not_forall.1 hall
   have ⟨hd1, hd2⟩ := Classical.not_imp.1 hd
   have ⟨hd3, hd4⟩ := Classical.not_imp.1 hd2
   exact ih d hd1 (by omega) hd4
theorem newB_subst {s x : List B} (h : Subst x) : Subst (newB s x) := by
 have hsr : Srt (newB s x) := srt_of_pw (Srt.filter h.vals.srt.pw _)
 refine ⟨⟨valsOk_of hsr (Nat.le_trans (List.length_filter_le _ _) h.vals.len) fun b hb => ?_⟩, fun b hb => ⟨(h.bnd b (mem_newB.1 hb).1).1, fun n hn => ?_⟩⟩
 ·have hb := (mem_newB.1 hb).1
  exact ⟨h.vals.var b hb, (h.vals.tok b hb).1, (h.vals.tok b hb).2⟩
 ·cases e : sub (newB s x) n with
  | none => rfl
  | some t =>
   have h1 := (h.bnd b (mem_newB.1 hb).1).2 n hn
   have h2 := sub_of_mem h.vals.srt.pw (mem_newB.1 (sub_in e)).1
   simp only at h2
   rw [h1] at h2
   cases h2
theorem disHolds_min {d g : List B} (hd : Subst d) (hg : Vals g) (h1 : ∀ b ∈ d, (asF g b.var).size ≤ 5000) (h2 : failF d (asF g) → ∃ b ∈ d, asF g b.var ≠ b.to.ap (asF g) ∧ (b.to.ap (asF g)).size ≤ 5000) : disHolds (d.map B.bd) (g.map B.bd) ↔ failF d (asF g) := by
 rw [disHolds_iff]
 constructor
 ·rintro ⟨_, _, b, hb, x, y, k1, k2, k3⟩ q
  rw [subst_asF] at k1 k2
  have k1 := (fit_some.1 k1).2
  have k2 := (fit_some.1 k2).2
  exact k3 (k1.symm.trans (Eq.trans (solves_eqsB.1 q b hb) k2))
 ·intro q
  obtain ⟨b, hb, k1, k2⟩ := h2 q
  refine ⟨hd, hg, b, hb, asF g b.var, b.to.ap (asF g), ?_, ?_, k1⟩
  ·rw [subst_asF]; exact fit_some.2 ⟨h1 b hb, rfl⟩
  ·rw [subst_asF]; exact fit_some.2 ⟨k2, rfl⟩
theorem failF_some {d : List B} {θ : Int → T} (h : failF d θ) : ∃ b ∈ d, θ b.var ≠ b.to.ap θ := by
 refine Classical.byContradiction fun k => h (solves_eqsB.2 fun b hb => ?_)
 exact Classical.byContradiction fun k2 => k ⟨b, hb, k2⟩
section
variable {μ : Mem}
set_option maxHeartbeats 1000000 in
theorem FnDisequality_spec {base : Option Addr} {n cap : Nat} (hb : Bytes μ base n) :
  Spec Try.prog 9 [.slice base n cap] μ fun r _ => r = .bool true := by
 refine Spec.mk Try.func9 (by kernel_rfl) ?_
 refine ifd (fun h => rPl rfl) (fun h => ?_)
 refine cPl (MakeSolved_spec hb 0 (by decide)) fun v1 μ1 hle1 hR => ?_
 obtain ⟨s, g, u1, u2, rfl, hs, hg, hsol, hrs, hrg⟩ := hR
 have w_ := Rep.sl hrs
 obtain ⟨b1, c1, rfl, hss⟩ := w_
 have w_ := Rep.sl hrg
 obtain ⟨b2, c2, rfl, hsg⟩ := w_
 rw [List.length_map, List.length_map] at hss hsg ⊢
 rw [List.length_map, List.length_map]
 refine cPl (MakeTerm_spec (hb.mono hle1) 40 (by decide) 6 8 (by decide) (by decide)) fun v2 μ2 hle2 hR => ?_
 obtain ⟨a, ha, hda⟩ := hR
 rw [lvB_6] at hda
 have w_ := Tm.invV ha
 obtain ⟨pa, rfl⟩ := w_
 intro r1
 refine cPl (MakeAlike_spec (hb.mono (hle1.trans hle2)) 60 (by decide) 8 (by decide) ha hda) fun v3 μ3 hle3 hR => ?_
 obtain ⟨b, hbv, hdb⟩ := hR
 have w_ := Tm.invV hbv
 obtain ⟨pb, rfl⟩ := w_
 intro r2
 have Ss := hs.side
 replace hss := hss.mono (hle2.trans hle3)
 replace hsg := hsg.mono (hle2.trans hle3)
 replace ha := ha.mono hle3
 refine cPl (Disequality_spec (Q := QD) (c0 := c1) QD.pair (fun t h => h.1) Ss.qd (hda.qd (by decide) (by decide)) (hdb.qd (by decide) (by decide)) Ss.subst (hda.ok (by decide)) (hdb.ok (by decide)) hss ha hbv) fun r3 μ4 hle4 hR => ?_
 obtain ⟨o, hR, hO⟩ := hR
 replace hss := hss.mono hle4
 replace hsg := hsg.mono hle4
 replace ha := ha.mono hle4
 replace hbv := hbv.mono hle4
 have hlow : ∀ v ∈ evars (eqsB s ++ [(a, b)]), 0 ≤ v ∧ v < 8 := fun v hv => by
  rw [evars_append] at hv
  rcases List.mem_append.1 hv with hv | hv
  ·exact Ss.evars.1 v hv
  ·simp only [evars, List.flatMap_cons, List.flatMap_nil, List.append_nil, List.mem_append] at hv
   rcases hv with hv | hv
   ·exact hda.low v (T.occ_vars.2 hv)
   ·exact hdb.low v (T.occ_vars.2 hv)
 have hsz : ∀ v ∈ evars (eqsB s ++ [(a, b)]), (asF g v).size ≤ 5000 := fun v hv => by
  have := hlow v hv
  have := (hg.asF this.1 (by omega)).size
  omega
 have hlen : (evars (eqsB s ++ [(a, b)])).length ≤ 400 := by
  rw [evars_append, List.length_append]
  have h0 := Ss.evars.2
  simp only [evars, List.flatMap_cons, List.flatMap_nil, List.append_nil, List.length_append] at h0 ⊢
  have h1 := a.vars_lvs
  have h2 := b.vars_lvs
  have h3 := hda.lvs
  have h4 := hdb.lvs
  omega
 have heq : SolvesE (asF g) (eqsB s ++ [(a, b)]) ↔ a.ap (asF g) = b.ap (asF g) := by
  rw [solves_append]
  exact ⟨fun k => by simpa [SolvesE] using k.2, fun k => ⟨hsol, by simpa [SolvesE] using k⟩⟩
 cases hR with
 | never =>
  refine cPl (MakeValue_spec (x := a) hsg ha) fun v8 μ8 hle8 hR8 => ?_
  refine cPl (MakeValue_spec (x := b) (hsg.mono hle8) (hbv.mono hle8)) fun v9 μ9 hle9 hR9 => ?_
  refine cGv (same_spec _ _ (hR8.mono hle9) hR9) ?_
  have hne := sol_none hO hsz hlen
  rw [heq] at hne
  refine ifd (fun h => absurd h (by decide)) (fun _ => ?_)
  refine ifd (fun _ => ?_) (fun h => absurd rfl h)
  refine ifnd (fun _ => rPl rfl) (fun h => absurd h hne)
 | always =>
  refine cPl (MakeValue_spec (x := a) hsg ha) fun v8 μ8 hle8 hR8 => ?_
  refine cPl (MakeValue_spec (x := b) (hsg.mono hle8) (hbv.mono hle8)) fun v9 μ9 hle9 hR9 => ?_
  refine cGv (same_spec _ _ (hR8.mono hle9) hR9) ?_
  have hE := same_equal hO.1.sol hsol Ss.subst
  refine ifd (fun h => absurd h (by decide)) (fun _ => ?_)
  refine ifd (fun h => absurd h (by decide)) (fun _ => ?_)
  refine ifd (fun _ => ?_) (fun h => absurd rfl h)
  refine ifd (fun _ => rPl rfl) (fun h => absurd hE h)
 | rest x v h hv =>
  have w_ := Rep.sl hv
  obtain ⟨b5, c5, rfl, hsd⟩ := w_
  rw [List.length_map, List.length_map] at hsd ⊢
  refine cPl (MakeValue_spec (x := a) hsg ha) fun v8 μ8 hle8 hR8 => ?_
  refine cPl (MakeValue_spec (x := b) (hsg.mono hle8) (hbv.mono hle8)) fun v9 μ9 hle9 hR9 => ?_
  refine cGv (same_spec _ _ (hR8.mono hle9) hR9) ?_
  have hX : Subst x := hO.substs x rfl
  have hD := newB_subst (s := s) hX
  have hdq : ∀ c ∈ newB s x, (T.var c.var).good ∧ c.to.good := fun c hc => by
   have k1 := hD.vals.var c hc
   exact ⟨k1, (hD.vals.tok c hc).1⟩
  have hsq : ∀ c ∈ s, (T.var c.var).good ∧ c.to.good := fun c hc => ⟨(Ss.qd c hc).1.1, (Ss.qd c hc).2.1⟩
  replace hss := hss.mono (hle8.trans hle9)
  replace hsd := hsd.mono (hle8.trans hle9)
  replace hsg := hsg.mono (hle8.trans hle9)
  refine ifd (fun _ => ?_) (fun h => absurd rfl h)
  refine cPl (NormalDisequality_spec (Q := T.good) (c0 := c1) (c1 := c5) (fun a b h => h) (fun t h => h) hsq hdq Ss.subst hD hss hsd) fun r6 μ10 hle10 hR10 => ?_
  obtain ⟨o2, hR10, hO2⟩ := hR10
  obtain rfl : o2 = some x := by rw [hO2.unifL]; exact new_again Ss.subst hO.1.sol hO.2
  cases hR10 with
  | always => exact absurd rfl h
  | rest x2 v2 h2 hv2 =>
   have w_ := Rep.sl hv2
   obtain ⟨b6, c6, rfl, hse⟩ := w_
   rw [List.length_map, List.length_map] at hse ⊢
   have hne : newB s x ≠ [] := fun e => h (new_none Ss.subst hO.1.sol e)
   have hpos : 0 < (newB s x).length := List.length_pos_iff.2 hne
   refine ifd (fun _ => ?_) (fun k => absurd (by omega) k)
   have hk := impl_SubstOk_spec (μ := μ10) (l := (newB s x).map B.bd) (cap := c5) (by rw [List.length_map]; exact hsd.mono hle10)
   have hdh := impl_DisequalityHolds_spec (μ := μ10) (l := (newB s x).map B.bd) (m := g.map B.bd) (cap := c5) (cap2 := c2) (by rw [List.length_map]; exact hsd.mono hle10) (by rw [List.length_map]; exact hsg.mono hle10)
   rw [List.length_map] at hk hdh
   rw [List.length_map] at hdh
   refine cGv hk ?_
   refine ifd (fun _ => ?_) (fun k => absurd ((substOk_iff _).2 hD) k)
   refine cGv hdh ?_
   have hnew := new_equal Ss.subst hO.1.sol hsol
   have hiff : disHolds ((newB s x).map B.bd) (g.map B.bd) ↔ ¬ a.ap (asF g) = b.ap (asF g) := by
    rw [disHolds_min hD (hg.vals (by decide) (by decide)) (fun c hc => ?_) fun q => ?_]
    ·rw [failF, solves_eqsB, hnew]
    ·have := hlow _ (hO.1.vars c (mem_newB.1 hc).1)
     have := (hg.asF this.1 (by omega)).size
     omega
    ·obtain ⟨c, hc, hcn⟩ := failF_some q
     exact fail_small Ss.subst hO.1 hg hsol _ c hc (Nat.le_refl _) hcn
   have hb2 : (decide (disHolds ((newB s x).map B.bd) (g.map B.bd)) == !decide (a.ap (asF g) = b.ap (asF g))) = true := by
    by_cases k : a.ap (asF g) = b.ap (asF g)
    ·rw [decide_eq_true k, decide_eq_false fun q => hiff.1 q k]; rfl
    ·rw [decide_eq_false k, decide_eq_true (hiff.2 k)]; rfl
   refine iIn (fun _ => ?_) (fun k => absurd (hb2.symm.trans k) (by decide))
   refine ifd (fun _ => ?_) (fun k => absurd rfl k)
   refine cGv (binds_spec (μ := μ10) (x := newB s x) (y := newB s x) (cap := c6) (cap2 := c5) hse (hsd.mono hle10)) ?_
   exact rPl (by rw [decide_eq_true rfl])
end
end Go.Vx
