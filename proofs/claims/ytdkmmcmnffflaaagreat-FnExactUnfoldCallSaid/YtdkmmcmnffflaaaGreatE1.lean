/- Texts of the proof, part E1. -/
import Derived.Below
import Derived.Lib.ReflectliteSwap
import Derived.MapKept
import Derived.Orders
import Derived.Sort.AssemblyPlain
import Derived.WalkKit
import Derived.WideKeyMaps
import Derived.Test.YtdkmmcmnffflaaaGreatM4
namespace Go.Vx
theorem lFz {body : St → (Ex → St → Prop) → Prop} {s : St} {K : Ex → St → Prop} {ι : Type} (I : ι → Prop) (σ : ι → St) (m : ι → Nat) (fz : List Nat)
  (h1 : ∀ i, scopedE (σ i).nxt (σ i).env = true ∧ scopedB (σ i).nxt (σ i).blk = true) (h2 : frzVC fz s fun s => fadesK fz s fun s => ∃ i0, I i0 ∧ s.Sub (σ i0))
  (h3 : ∀ i, I i → body (σ i) fun e s' => match e with
   | .normal => ∃ fz, frzVC fz s' fun s' => fadesK fz s' fun s' => ∃ i', I i' ∧ m i' < m i ∧ s'.Sub (σ i')
   | e => K e s') : loopVC body s K := ⟨.inr (.inl ⟨ι, I, σ, m, fz, h2, h1, h3⟩)⟩
theorem loop_frzN {body : St → (Ex → St → Prop) → Prop} {s : St} {K : Ex → St → Prop} {ι : Type} (I : ι → Prop) (σ : ι → St) (m : ι → Nat) (fz : List Nat)
  (h1 : ∀ i, scopedE (σ i).nxt (σ i).env = true ∧ scopedB (σ i).nxt (σ i).blk = true) (h2 : frzVC fz s fun s => fadesK fz s fun s => ∃ i0, I i0 ∧ s.SubN (σ i0))
  (h3 : ∀ i, I i → body (σ i) fun e s' => match e with
   | .normal => ∃ fz, frzVC fz s' fun s' => fadesK fz s' fun s' => ∃ i', I i' ∧ m i' < m i ∧ s'.Sub (σ i')
   | e => K e s') : loopVC body s K := ⟨.inr (.inr ⟨ι, I, σ, m, fz, h2, h1, h3⟩)⟩
end Go.Vx
namespace Go.Vx
open Go.Proofs Classical
section
variable {μ : Mem}
theorem impl_GoalOk_spec (g : Gl) {v : Value} (hv : RepV μ g.d v) : Gives Tryz.prog 52 [v] μ (.bool (decide g.Ok)) := by
 have w_ := Gl.invV hv
 obtain ⟨p, rfl⟩ := w_
 refine Spec.mk Tryz.func52 (by kernel_rfl) ?_
 intro r
 refine cGv (goalNodes_spec g hv (by decide) (by decide)) (rGv (isI ⟨fun hh => ?_, fun hh => ?_⟩) rfl)
 ·have w_ := Gl.nodes_ge (by omega : ¬ g.nodes 80 < 0)
  obtain ⟨h1, h2, _⟩ := w_
  exact ⟨h1, by omega⟩
 ·rw [Gl.nodes_pos hh.1 (by have := hh.2; omega)]
  have := g.cnt_pos; omega
end
end Go.Vx
namespace Go.Vx
open Go.Proofs Classical
section
variable {μ : Mem}
theorem l13Copy_spec : ∀ (g : Gl) {μ : Mem} {v : Value}, RepV μ g.d v → g.Sh → Spec Tryz.prog 49 [v] μ fun v μ' => RepV μ' g.d v :=
 Gl.ind fun g ih μ v hv hS => by
  have w_ := Gl.inv hv
  obtain ⟨p, rfl, hts, hgs⟩ := w_
  have w_ := lift_ok hS.top.tm
  obtain ⟨xs, hxs, hok⟩ := w_
  have hg8 := hS.top.gl
  have hx4 : xs.length ≤ 4 := by
   have T := hS.top
   have e9 := T.ln9; have e2 := T.ln2; have e1 := T.ln1; have e0 := T.ln0; have k0 := T.k0; have k1 := T.k1
   have : g.terms.length = xs.length := by rw [hxs, List.length_map]
   omega
  rw [hxs, List.length_map] at hts ⊢
  refine Spec.mk Tryz.func49 (by kernel_rfl) ?_
  intro r1 r2
  refine cPl (l02CopyAll_spec hts (by omega)) fun v1 μ1 hle1 hR1 => ?_
  have w_ := Rep.sl hR1
  obtain ⟨b1, c1, rfl, hs1⟩ := w_
  intro r3
  have hgs1 := hgs.mono hle1
  refine loop_nil (fun p : Nat × Option Nat × Nat × List Value × Mem => p.1 ≤ g.goals.length ∧ μ1.Le p.2.2.2.2 ∧ Rows p.2.2.2.2 4 ((g.goals.take p.1).map Gl.d) p.2.2.2.1)
   (fun (i, b, c, ys, μ') => ⟨[(2, .loc 1 r2 0), (3, .loc 2 r3 0), (15, .val (.slice p.2.1 g.goals.length p.2.2)), (16, .val (.int .i64 g.goals.length)), (17, .val (.int .i64 i))],
    [(1, some (.cells r2 [.val (.int .i64 0), .val (.string ⟨#[]⟩), .val (.slice none 0 0), .val (.slice none 0 0)] 30)), (2, some (.cells r3 [.val (.int .i64 g.kind), .val (.string g.name), .val (.slice b1 ((xs.map T.tm).map Tm.d).length c1), .row 3 b ys.length c] 30)), (3, some (.row b c 30 4 ys))], 4, μ', Mem.nil⟩) (fun p => g.goals.length - p.1)
   (0, none, 0, [], μ1) ⟨by simp, Mem.Le.refl _, .nil⟩ (fun (_, _, _, _, _) => ⟨rfl, rfl⟩) ⟨⟨⟨_, rfl, .inl rfl⟩, ⟨_, rfl, .inl rfl⟩, ⟨_, rfl, .inl rfl⟩, ⟨_, rfl, .inl rfl⟩, ⟨_, rfl, .inl rfl⟩, trivial⟩, ⟨.inl rfl, .inr (.inr ⟨_, _, _, _, rfl, rfl, .inl rfl, .inl rfl, .inl rfl, .inr ⟨3, rfl, rfl, Nat.le_refl _⟩, trivial⟩), .inr (.inl ⟨_, _, rfl, Nat.le_refl _⟩), trivial⟩, rfl, rfl⟩ ?_
  rintro ⟨i, b, c, ys, μ'⟩ ⟨hi, hle, hrows⟩
  dsimp only at hi hle hrows
  have hlen := hrows.len
  simp only [List.length_map, List.length_take] at hlen
  refine ifd (fun h => ?_) (fun h => ?_)
  ·have w_ := aSo (l := g.goals) (i := i) (by omega)
   obtain ⟨t, ht⟩ := w_
   have w_ := Gl.elem (hgs1.mono hle) ht
   obtain ⟨ad, p3, hel, hr⟩ := w_
   refine eIn hel ?_
   intro r4
   refine cPl (ih t (mAt ht) hr (hS.sub t (mAt ht))) fun v' μ'' hle2 hR => ?_
   have w_ := Gl.invV hR
   obtain ⟨q, rfl⟩ := w_
   intro r5
   refine gIn ?_ ?_ fun b' c' _ => ?_
   ·show (ys.length + 1) * 72 ≤ _; omega
   ·exact Nat.le_trans (m := 100000000) (show ys.length + 1 ≤ _ by omega) (by decide)
   have hsucc : (g.goals.take (i + 1)).map Gl.d = (g.goals.take i).map Gl.d ++ [t.d] := by
    rw [List.take_add_one, ht, Option.toList_some]; simp
   exact num64 (by omega) (by omega) ⟨(i + 1, b', c', _, μ''), ⟨by dsimp only; omega, hle.trans hle2, by rw [hsucc]; exact (hrows.mono hle2).append (Rows.one hR (Gl.d_n _))⟩, by dsimp only; omega, ⟨⟨rfl, rfl, rfl, rfl, rfl, trivial⟩, ⟨rfl, rfl, rfl, trivial⟩, rfl, rfl⟩⟩
  ·obtain rfl : i = g.goals.length := by omega
   rw [List.take_length] at hrows
   refine rFz [3] fun μ2 hle2 hno hrow => .inl ?_
   rw [Gl.d_eq, hxs]
   exact ⟨_, rfl, RepS.int (RepS.str (RepS.cons1 ((hR1.mono hle).mono hle2) (RepS.last (Rows.sl hrow (hrows.mono hle2) (Nat.le_trans (m := 100000000) (by omega) (by decide))))))⟩
end
end Go.Vx
namespace Go.Vx
open Go.Proofs Classical
section
variable {μ : Mem}
def resGl : Option Gl → Gl
 | some y => y
 | none => .mk 0 ⟨#[]⟩ [] []
theorem zeroG_own : OwnV (resGl none).d Mem.nil (.agg #[.int .i64 0, .string ⟨#[]⟩, .slice none 0 0, .slice none 0 0]) := by
 rw [resGl, Gl.d_eq]
 exact ⟨_, rfl, OwnS.int (OwnS.str (OwnS.cons (c1 := [_]) (Parts.nil_left _) (Own.nilSl 4) (OwnS.last (Own.nilSl 4))))⟩
set_option maxHeartbeats 4000000 in
end
end Go.Vx
namespace Go.Vx
open Go.Proofs Classical
section
variable {μ : Mem}
theorem Rep.srcAll {es n cap : Nat} {base : Option Addr} {ds : List D} (h : RepV μ (.sl es ds) (.slice base n cap)) : ∃ vs, Rows μ es ds vs ∧ vs.length = n ∧ SrcAt μ base n es vs := by
 have w_ := Rep.src h
 obtain ⟨vs, hrows, hvl, hcap, hsrc⟩ := w_
 have := hsrc 0 n (Nat.zero_le _) (Nat.le_refl _)
 have e1 : (if cap = 0 then base else base.map (·.add (0 * es))) = base := by
  split
  ·rfl
  ·cases base with
   | none => rfl
   | some a => simp [Addr.add]
 rw [e1, Nat.sub_zero, List.drop_zero, List.take_of_length_le (by omega)] at this
 exact ⟨vs, hrows, hvl, this⟩
end
end Go.Vx
namespace Go.Vx
open Go.Sort
section
variable {α : Type} {lt : α → α → Bool}
end
section
variable {α : Type} [Inhabited α] {lt : α → α → Bool} {d c R : Array α}
theorem Rot.ls {m i j : Nat} (hi : i ≤ m) (hj : i < j) (s : Sw (m - i) (m + j - i) i d c) (r : Rot (m - i) m (m + (j - i)) c R) : Rot (m - i) m (m + j) d R where
 size := r.size.trans s.size
 out k hk := by rw [r.out k (by omega), s.out k (by omega) (by omega)]
 lo t ht := by
  by_cases h : t < j - i
  ·rw [r.lo t (by omega), s.out _ (by omega) (by omega)]
  ·obtain ⟨u, rfl⟩ : ∃ u, t = j - i + u := ⟨t - (j - i), by omega⟩
   have := r.hi u (by omega)
   rw [show m - i + (j - i + u) = m - i + (m + (j - i) - m) + u by omega, this, s.fst u (by omega), show m + j - i + u = m + (j - i + u) by omega]
 hi t ht := by
  rw [show m - i + (m + j - m) + t = m + j - i + t by omega, r.out _ (by omega), s.snd t (by omega)]
section
variable {s m e : Nat}
end
end
end Go.Vx
namespace Go.Vx
open Go.Proofs Classical
open Go.Sort
structure SortBy {α : Type} [Inhabited α] (lf sf : FuncId) (lb sb : List Value) (n : Nat) (lt : α → α → Bool) (μ0 : Mem) (J : Array α → Mem) (V : Array α → Prop) : Prop where
 max : n ≤ 1000000000000
 size : ∀ {d}, V d → d.size = n
 sw : ∀ {d : Array α} {i j : Nat}, V d → i < n → j < n → V (swp d i j)
 dom : ∀ {d d' : Array α} {b : Nat}, V d → V d' → J d b = none → J d' b = none
 less : ∀ {μ : Mem} {d : Array α} {i j : Nat}, μ0.Le μ → V d → i < n → j < n → SpecH Tryz.prog lf (.int .i64 i :: .int .i64 j :: lb) μ (J d) fun v μ' h' => v = .bool (lt d[i]! d[j]!) ∧ μ' = μ ∧ h' = J d
 swap : ∀ {μ : Mem} {d : Array α} {i j : Nat}, μ0.Le μ → V d → i < n → j < n → SpecH Tryz.prog sf (.int .i64 i :: .int .i64 j :: sb) μ (J d) fun v μ' h' => v = .tuple #[] ∧ μ' = μ ∧ h' = J (swp d i j)
section
variable {α : Type} [Inhabited α] {lf sf : FuncId} {lb sb : List Value} {n : Nat} {lt : α → α → Bool} {μ0 : Mem} {J : Array α → Mem} {V : Array α → Prop} {μ : Mem} {d : Array α}
end
end Go.Vx
namespace Go.Vx
open Go.Proofs Classical
open Go.Sort
open Go.Extern Go.Extern.Rtype Go.RowKit Go.Lib
section
variable {P : Program} {f : FuncId} {args : List Value} {μ h0 : Mem}
theorem SpecH.ext {R : Value → Mem → Mem → Prop} (h : ∀ w, Holds μ w → Holds h0 w → Apart μ h0 → ∃ v w' μ' h', (callFunc f args.toArray).run P w = .ok (.value v) w' ∧ R v μ' h' ∧ Step μ h0 w μ' h' w') : SpecH P f args μ h0 R :=
 ⟨trivial, fun w h1 h2 h3 => by
  have w_ := h w h1 h2 h3
  obtain ⟨v, w', μ', h', e, hr, hS⟩ := w_
  exact .inr ⟨v, w', e, v, μ', h', rfl, hr, hS⟩⟩
theorem Step.same {w : World} (h1 : Holds μ w) (h2 : Holds h0 w) (h3 : Apart μ h0) : Step μ h0 w μ h0 w :=
 ⟨Mem.Le.refl _, h1, h2, h3, fun _b h h' => absurd h h', fun _b h => .inr h, Nat.le_refl _, fun _ _ _ => rfl, rfl, rfl, rfl⟩
theorem Step.row {w : World} {r : Nat} {cs cs' : Array Value} {ty : TypeId} (h1 : Holds μ w) (h2 : Holds h0 w) (h3 : Apart μ h0) (hr : h0 r = some (.cells cs ty (0, 0))) : Step μ h0 w μ (h0.set r (.cells cs' ty (0, 0))) (w.setRow r cs') := by
 have hne : ∀ b, μ b ≠ none → b ≠ r := fun b hb e => by
  subst e; rw [h3 b hb] at hr; cases hr
 have hg : w.heap[r]? = some (.cells cs ty (0, 0)) := h2 _ _ hr
 refine ⟨Mem.Le.refl _, fun b o hb => ?_, fun b o hb => ?_, fun b hb => ?_, fun b h h' => absurd h h', fun b h => ?_, by simp, fun b _ hb => setRow_other w r b _ fun e => ?_, rfl, rfl, rfl⟩
 ·rw [setRow_other w r b _ (hne b (by simp [hb]))]; exact h1 b o hb
 ·rw [Mem.set_get] at hb
  split at hb
  ·rename_i e; subst e; cases hb; rw [setRow_heap w b _ _ ty (0, 0) hg]
  ·rename_i e; rw [setRow_other w r b _ e]; exact h2 b o hb
 ·rw [Mem.set_ne (hne b hb)]; exact h3 b hb
 ·by_cases e : b = r
  ·subst e; exact .inr (by rw [hr]; simp)
  ·rw [Mem.set_ne e] at h; exact .inr h
 ·subst e; rw [hr] at hb; cases hb
theorem Step.alloc {w : World} {o : Obj} (h1 : Holds μ w) (h2 : Holds h0 w) (h3 : Apart μ h0) : Step μ h0 w (μ.set w.heap.size o) h0 (w.alloc o) ∧ μ w.heap.size = none := by
 have hlt : ∀ b o, w.heap[b]? = some o → b < w.heap.size := fun b o h => (Array.getElem?_eq_some_iff.1 h).1
 have hm : μ w.heap.size = none := by
  cases e : μ w.heap.size with
  | none => rfl
  | some o => have := hlt _ _ (h1 _ _ e); omega
 have hh : h0 w.heap.size = none := by
  cases e : h0 w.heap.size with
  | none => rfl
  | some o => have := hlt _ _ (h2 _ _ e); omega
 have hk : ∀ b, b < w.heap.size → (w.alloc o).heap[b]? = w.heap[b]? := fun b hb => by
  show (w.heap.push o)[b]? = _
  rw [Array.getElem?_push, if_neg (by omega)]
 refine ⟨⟨fun b x hb => ?_, fun b x hb => ?_, fun b x hb => ?_, fun b hb => ?_, fun b h h' => ?_, fun b h => .inr h, by show w.heap.size ≤ (w.heap.push o).size; simp, fun b hb _ => hk b hb, rfl, rfl, rfl⟩, hm⟩
 ·rw [Mem.set_ne (fun e => by subst e; rw [hm] at hb; cases hb)]; exact hb
 ·rw [Mem.set_get] at hb
  split at hb
  ·rename_i e; subst e; cases hb; show (w.heap.push o)[w.heap.size]? = some o; simp
  ·rw [hk b (hlt _ _ (h1 _ _ hb))]; exact h1 _ _ hb
 ·rw [hk b (hlt _ _ (h2 _ _ hb))]; exact h2 _ _ hb
 ·rw [Mem.set_get] at hb
  split at hb
  ·rename_i e; subst e; exact hh
  ·exact h3 b hb
 ·rw [Mem.set_get] at h'
  split at h'
  ·rename_i e; subst e; exact .inl (Nat.le_refl _)
  ·exact absurd h h'
end
structure SlTy (t e : TypeId) (i ie : TypeInfo) (ke : Nat) : Prop where
 hi : Tryz.prog.info? t = some i
 hd : i.desc = .slice e
 pk : Tryz.prog.packed t = false
 hie : Tryz.prog.info? e = some ie
 hke : ∀ w, (Extern.Rtype.kind e).run Tryz.prog w = .ok ke w
 h9 : swapperK 2 ie ke = 9
section
variable {μ : Mem}
end
end Go.Vx
namespace Go.Vx
open Go.Proofs Classical
open Go.Sort
open Go.Extern Go.Extern.Rtype Go.RowKit Go.Lib
def RowV (h0 : Mem) (r : Nat) (ty : TypeId) (rest : List Value) (d : Array Value) : Mem := h0.set r (.cells (List.toArray (d.toList.flatMap vcells ++ rest)) ty (0, 0))
def Els (es : Nat) (d : Array Value) : Prop := ∀ x ∈ d.toList, (vcells x).length = es ∧ ∀ u ∈ vcells x, u.oneCell' = true
theorem flat_put {es : Nat} : ∀ {l : List Value}, (∀ y ∈ l, (vcells y).length = es) → ∀ {i : Nat}, i < l.length → ∀ {y : Value}, (vcells y).length = es → ∀ rest : List Value,
  (l.flatMap vcells ++ rest).take (i * es) ++ vcells y ++ (l.flatMap vcells ++ rest).drop (i * es + es) = (l.set i y).flatMap vcells ++ rest
 | [], _, i, hi, _, _, _ => by simp at hi
 | z :: r, hl, 0, _, y, hy, rest => by
  have hz := hl z (by simp)
  simp only [Nat.zero_mul, List.take_zero, List.nil_append, Nat.zero_add, List.set_cons_zero, List.flatMap_cons, List.append_assoc]
  rw [← hz, List.drop_left]
 | z :: r, hl, i + 1, hi, y, hy, rest => by
  have hz := hl z (by simp)
  have ih := flat_put (l := r) (fun y h => hl y (List.mem_cons_of_mem _ h)) (i := i) (by simpa using hi) hy rest
  simp only [List.set_cons_succ, List.flatMap_cons, List.append_assoc] at ih ⊢
  have e1 : (i + 1) * es = (vcells z).length + i * es := by rw [hz, Nat.add_mul, Nat.one_mul, Nat.add_comm]
  rw [e1, List.take_length_add_append, Nat.add_assoc, List.drop_length_add_append, List.append_assoc, ih]
theorem arrV_at {d : Array Value} {k : Nat} (h : k < d.size) : d.toList[k]? = some d[k]! := by
 rw [Array.getElem?_toList, getElem!_pos d k h, Array.getElem?_eq_getElem h]
theorem arrV_mem {d : Array Value} {k : Nat} (h : k < d.size) : d[k]! ∈ d.toList := List.mem_of_getElem? (arrV_at h)
theorem Els.perm {es n : Nat} {d d' : Array Value} (hn : d.size = n) (h : Els es d) (p : PermIn 0 n d d') : Els es d' := fun x hx => by
 have w_ := List.mem_iff_getElem?.1 hx
 obtain ⟨i, hi⟩ := w_
 have hi2 : i < d'.size := by have := (List.getElem?_eq_some_iff.1 hi).1; simpa using this
 rw [arrV_at hi2] at hi
 cases hi
 exact permIn_all d d' 0 n (fun x => (vcells x).length = es ∧ ∀ u ∈ vcells x, u.oneCell' = true) (by omega) p (fun j _ hj => h _ (arrV_mem (by omega))) i (by omega) (by rw [p.1] at hi2; omega)
section
variable {P : Program} {μ h0 : Mem} {r : Nat} {ty : TypeId} {rest : List Value} {d : Array Value} {es : Nat}
theorem RowV.cell (hE : Els es d) {i c : Nat} {v : Value} (hi : i < d.size) (hv : (vcells d[i]!)[c]? = some v) : (RowV h0 r ty rest d).cell ⟨r, i * es + c, none⟩ = some v := by
 have h := flat_at (fun y hy => (hE y hy).1) (arrV_at hi) hv
 simp only [Mem.cell, RowV, Mem.set_at, Option.isSome_none]
 have h2 := (List.getElem?_eq_some_iff.1 h).1
 simp only [List.getElem?_toArray]
 rw [List.getElem?_append_left h2, h]
 rfl
theorem load_row {e : TypeId} {ti : TI} (hti : TIok P e ti) (w : World) (a : Addr) (x : Value) (hl : (vcells x).length = ti.size) (h : ∀ j v, (vcells x)[j]? = some v → w.cell? (a.add j) = some v) (h1 : ti.agg = false → ti.size = 1) (h2 : ∀ u ∈ vcells x, u.oneCell' = true) :
  ∃ y, (loadVar e a).run P w = .ok y w ∧ vcells y = vcells x := by
 have hr := run_loadVar_cells hti w a (vcells x) hl h h1
 refine ⟨_, hr, ?_⟩
 cases hg : ti.agg with
 | true => simp [vcells]
 | false =>
  rw [h1 hg] at hl
  match hc : vcells x, hl with
  | [u], _ =>
   have := h2 u (by rw [hc]; simp)
   simp only [Bool.false_eq_true, if_false, List.getD_cons_zero]
   cases u <;> first | rfl | (simp [Value.oneCell'] at this)
theorem swap9_spec {e : TypeId} {ti : TI} (hti : TIok Tryz.prog e ti) (h1 : ti.agg = false → ti.size = 1) (hE : Els ti.size d) {n cap i j : Nat} (hd : d.size = n) (hi : i < n) (hj : j < n) :
  SpecH Tryz.prog 271 [.int .i64 i, .int .i64 j, .slice (some ⟨r, 0, none⟩) n cap, typeHandle Tryz.prog e] μ (RowV h0 r ty rest d) fun v μ' h' => v = .tuple #[] ∧ μ' = μ ∧ h' = RowV h0 r ty rest (swp d i j) := by
 refine SpecH.ext fun w hm hh ha => ?_
 subst hd
 have hX := hE _ (arrV_mem hi)
 have hY := hE _ (arrV_mem hj)
 have hcell : ∀ k, k < d.size → ∀ c v, (vcells d[k]!)[c]? = some v → w.cell? ((⟨r, k * ti.size, none⟩ : Addr).add c) = some v := fun k hk c v hv => by
  rw [Addr.add_lit']; exact hh.cell (RowV.cell hE hk hv)
 have w_ := load_row hti w ⟨r, i * ti.size, none⟩ d[i]! hX.1 (hcell i hi) h1 hX.2
 obtain ⟨X, l1, eX⟩ := w_
 have w_ := load_row hti w ⟨r, j * ti.size, none⟩ d[j]! hY.1 (hcell j hj) h1 hY.2
 obtain ⟨Y, l2, eY⟩ := w_
 have hb : ∀ k, k < d.size → k * ti.size + ti.size ≤ d.size * ti.size := fun k hk => by
  have := Nat.mul_le_mul_right ti.size (show k + 1 ≤ d.size from hk); rwa [Nat.add_mul, Nat.one_mul] at this
 have hlen : (d.toList.flatMap vcells).length = d.size * ti.size := by rw [flat_len _ fun y hy => (hE y hy).1]; simp
 have hg : w.heap[r]? = some (.cells (List.toArray (d.toList.flatMap vcells ++ rest)) ty (0, 0)) := hh _ _ (Mem.set_at _ _ _)
 have s1 := run_storeVar hti w r (i * ti.size) _ ty hg Y (by rw [eY]; exact hY.1) (by have := hb i hi; simp [hlen]; omega) (by rw [eY]; exact hY.2)
 have e1 := flat_put (fun y hy => (hE y hy).1) (l := d.toList) (i := i) (by simpa using hi) (y := d[j]!) hY.1 rest
 rw [eY, hY.1] at s1
 simp only [e1] at s1
 have hE2 : ∀ y ∈ d.toList.set i d[j]!, (vcells y).length = ti.size := fun y hy => by
  rcases List.mem_or_eq_of_mem_set hy with h | h
  ·exact (hE y h).1
  ·subst h; exact hY.1
 have hlen2 : ((d.toList.set i d[j]!).flatMap vcells).length = d.size * ti.size := by rw [flat_len _ hE2]; simp
 have hg2 : (w.setRow r (List.toArray ((d.toList.set i d[j]!).flatMap vcells ++ rest))).heap[r]? = some (.cells (List.toArray ((d.toList.set i d[j]!).flatMap vcells ++ rest)) ty (0, 0)) := setRow_heap w r _ _ ty (0, 0) hg
 have s2 := run_storeVar hti _ r (j * ti.size) _ ty hg2 X (by rw [eX]; exact hX.1) (by have := hb j hj; simp [hlen2]; omega) (by rw [eX]; exact hX.2)
 have e2 := flat_put hE2 (i := j) (by simpa using hj) (y := d[i]!) hX.1 rest
 rw [eX, hX.1] at s2
 simp only [e2] at s2
 have hsw : (d.toList.set i d[j]!).set j d[i]! = (swp d i j).toList := by rw [swp, Array.toList_setIfInBounds, Array.toList_setIfInBounds]
 rw [hsw] at s2
 have hss : ∀ z z', (w.setRow r z).setRow r z' = w.setRow r z' := fun z z' => setRow_setRow w r z z'
 have hS := Step.row (cs' := List.toArray ((swp d i j).toList.flatMap vcells ++ rest)) hm hh ha (Mem.set_at _ _ _)
 refine ⟨.tuple #[], w.setRow r (List.toArray ((swp d i j).toList.flatMap vcells ++ rest)), μ, RowV h0 r ty rest (swp d i j), ?_, ⟨rfl, rfl, rfl⟩, ?_⟩
 rotate_left
 ·rw [RowV, Mem.set_set] at hS; exact hS
 rw [run_callFunc_extern Tryz.func271 (by kernel_rfl) (by kernel_rfl) (by kernel_rfl) (e := Extern.ReflectliteSwapper.swap false) (by kernel_rfl)]
 show (Sem.run _ (ReflectliteSwapper.swap false #[.int .i64 i, .int .i64 j, .slice (some ⟨r, 0, none⟩) d.size cap, typeHandle Tryz.prog e]) w).andThen _ = _
 have i0 : ¬ ((i : Int) < 0) := by omega
 have i1 : ¬ ((i : Int) ≥ d.size) := by omega
 have j0 : ¬ ((j : Int) < 0) := by omega
 have j1 : ¬ ((j : Int) ≥ d.size) := by omega
 rw [rl_swap]
 simp [i0, i1, j0, j1, ofHandle, handleType, typeHandle, ReflectliteSwapper.exchange, hti.run_sizeOf, Addr.add_lit', l1, l2, s1, s2, hss, Result.andThen]
end
section
variable {μ h0 : Mem} {lf sf : FuncId} {lb sb : List Value} {n : Nat}
end
section
variable {α : Type} [Inhabited α] {enc : α → Value} {μ h0 : Mem} {r : Nat} {ty t e : TypeId} {i ie : TypeInfo} {ke : Nat} {ti : TI} {rest : List Value} {d0 : Array α} {n cap : Nat} {lf : FuncId} {lb : List Value} {lt : α → α → Bool}
theorem map_get {d : Array α} {k : Nat} (h : k < d.size) : (d.map enc)[k]! = enc d[k]! := by
 rw [getElem!_pos _ k (by simpa using h), getElem!_pos d k h, Array.getElem_map]
theorem swp_map {d : Array α} {a b : Nat} (ha : a < d.size) (hb : b < d.size) : (swp d a b).map enc = swp (d.map enc) a b := by
 unfold swp
 rw [map_get hb, map_get ha]
 simp
theorem permIn_map {d d' : Array α} (hn : d.size = n) (p : PermIn 0 n d d') : PermIn 0 n (d.map enc) (d'.map enc) := by
 obtain ⟨h1, h2, h3⟩ := p
 refine ⟨by simp [h1], fun k hk => ?_, ?_⟩
 ·have hk2 : n ≤ k := by omega
  rw [getElem!_neg _ k (by simp; omega), getElem!_neg _ k (by simp; omega)]
 ·have e1 : d'.extract 0 n = d' := by rw [← hn, ← h1]; exact Array.extract_size
  have e2 : d.extract 0 n = d := by rw [← hn]; exact Array.extract_size
  have e3 : (d'.map enc).extract 0 n = d'.map enc := by rw [← hn, ← h1, show d'.size = (d'.map enc).size by simp]; exact Array.extract_size
  have e4 : (d.map enc).extract 0 n = d.map enc := by rw [← hn, show d.size = (d.map enc).size by simp]; exact Array.extract_size
  rw [e1, e2] at h3
  rw [e3, e4]
  simpa using h3.map enc
theorem SortBy.row (hti : TIok Tryz.prog e ti) (h1 : ti.agg = false → ti.size = 1) (hE : Els ti.size (d0.map enc)) (hn : d0.size = n) (hmax : n ≤ 1000000000000)
  (less : ∀ {μ' : Mem} {d : Array α} {i j : Nat}, μ.Le μ' → PermIn 0 n d0 d → i < n → j < n → SpecH Tryz.prog lf (.int .i64 i :: .int .i64 j :: lb) μ' (RowV h0 r ty rest (d.map enc)) fun v μ'' h' => v = .bool (lt d[i]! d[j]!) ∧ μ'' = μ' ∧ h' = RowV h0 r ty rest (d.map enc)) :
  SortBy lf 271 lb [.slice (some ⟨r, 0, none⟩) n cap, typeHandle Tryz.prog e] n lt μ (fun d => RowV h0 r ty rest (d.map enc)) (PermIn 0 n d0) where
 max := hmax
 size hV := hV.1.trans hn
 sw hV hi hj := permIn_trans _ _ _ _ _ hV (swp_permIn _ _ _ _ _ (Nat.zero_le _) hi (Nat.zero_le _) hj (by rw [hV.1, hn]; exact Nat.le_refl _))
 dom {d d' b} _ _ hb := by
  simp only [RowV, Mem.set_get] at hb ⊢
  split at hb
  ·cases hb
  ·rename_i e; rw [if_neg e]; exact hb
 less hle hV hi hj := less hle hV hi hj
 swap {μ d i j} hle hV hi hj := by
  have hs : d.size = n := hV.1.trans hn
  have := swap9_spec (μ := μ) (h0 := h0) (r := r) (ty := ty) (rest := rest) (cap := cap) hti h1 (d := d.map enc) (hE.perm (by simp [hn]) (permIn_map hn hV)) (by simpa using hs) hi hj
  rwa [← swp_map (by omega) (by omega)] at this
end
section
variable {μ h0 : Mem} {r : Nat} {ty : TypeId} {rest : List Value} {es : Nat}
end
end Go.Vx
namespace Go.Vx
open Go.Proofs Classical
open Go.Sort
structure Prs {X : Type} (es : Nat) (f : X → D) (ps : List (X × Value)) (g : Mem) : Prop where
 own : OwnRows es (ps.map fun p => f p.1) (ps.map Prod.snd) g
 size : ∀ p ∈ ps, (vcells p.2).length = es ∧ ∀ u ∈ vcells p.2, u.oneCell' = true
section
variable {X : Type} {es : Nat} {f : X → D} {g : Mem}
theorem Prs.uncons {p : X × Value} {ps : List (X × Value)} (h : Prs es f (p :: ps) g) : ∃ g1 g2, Parts g g1 g2 ∧ Own (f p.1) g1 (vcells p.2) ∧ (f p.1).n = es ∧ Prs es f ps g2 := by
 obtain ⟨⟨ho, hs, hl⟩, hz⟩ := h
 simp only [List.map_cons, List.flatMap_cons] at ho
 obtain ⟨c1, c2, g1, g2, e, hp, h1, h2⟩ := ho
 have hn : (f p.1).n = es := hs _ (by simp)
 have hz0 := (hz p (by simp)).1
 have := List.append_inj e (by rw [h1.len, hn, hz0])
 obtain ⟨rfl, rfl⟩ := this
 exact ⟨g1, g2, hp, h1, hn, ⟨h2, fun x hx => hs x (by simp only [List.map_cons]; exact List.mem_cons_of_mem _ hx), by simp⟩, fun q hq => hz q (List.mem_cons_of_mem _ hq)⟩
theorem Prs.cons {p : X × Value} {ps : List (X × Value)} {g1 g2 : Mem} (hp : Parts g g1 g2) (h1 : Own (f p.1) g1 (vcells p.2)) (hn : (f p.1).n = es) (hz : (vcells p.2).length = es ∧ ∀ u ∈ vcells p.2, u.oneCell' = true) (h : Prs es f ps g2) : Prs es f (p :: ps) g := by
 refine ⟨⟨?_, ?_, by simp⟩, ?_⟩
 ·simp only [List.map_cons, List.flatMap_cons]
  exact OwnS.cons hp h1 h.own.own
 ·intro x hx
  simp only [List.map_cons, List.mem_cons] at hx
  rcases hx with rfl | hx
  ·exact hn
  ·exact h.own.size x hx
 ·intro q hq
  rcases List.mem_cons.1 hq with rfl | hq
  ·exact hz
  ·exact h.size q hq
theorem Prs.perm {ps ps' : List (X × Value)} (h : ps.Perm ps') : ∀ {g : Mem}, Prs es f ps g → Prs es f ps' g := by
 induction h with
 | nil => exact fun h => h
 | cons p _ ih =>
  intro g h
  obtain ⟨g1, g2, hp, h1, hn, h2⟩ := h.uncons
  exact Prs.cons hp h1 hn (h.size _ (by simp)) (ih h2)
 | swap p q l =>
  intro g h
  obtain ⟨g1, k, hp, h1, hn, h2⟩ := h.uncons
  obtain ⟨g2, g3, hq, h3, hn2, h4⟩ := h2.uncons
  have w_ := Parts.assoc hp hq.symm
  obtain ⟨m, hm1, hm2⟩ := w_
  exact Prs.cons hm2.symm h3 hn2 (h.size _ (by simp)) (Prs.cons hm1 h1 hn (h.size _ (by simp)) h4)
 | trans _ _ ih1 ih2 => exact fun h => ih2 (ih1 h)
theorem Prs.at : ∀ {ps : List (X × Value)} {g : Mem}, Prs es f ps g → ∀ p ∈ ps, ∃ g' : Mem, g'.Le g ∧ Own (f p.1) g' (vcells p.2)
 | [], _, _, p, hp => by simp at hp
 | q :: ps, g, h, p, hp => by
  obtain ⟨g1, g2, hpp, h1, _, h2⟩ := h.uncons
  rcases List.mem_cons.1 hp with rfl | hp
  ·exact ⟨g1, hpp.left, h1⟩
  ·have w_ := Prs.at h2 p hp
   obtain ⟨g', h3, h4⟩ := w_
   exact ⟨g', h3.trans hpp.right, h4⟩
theorem Prs.zip : ∀ {xs : List X} {ys : List Value} {g : Mem}, OwnRows es (xs.map f) ys g → (∀ y ∈ ys, (vcells y).length = es ∧ ∀ u ∈ vcells y, u.oneCell' = true) → Prs es f (xs.zip ys) g ∧ (xs.zip ys).map Prod.fst = xs ∧ (xs.zip ys).map Prod.snd = ys := fun {xs ys g} h hz => by
 have hl : xs.length = ys.length := by simpa using h.len
 have e1 : (xs.zip ys).map Prod.fst = xs := by rw [List.map_fst_zip (by omega)]
 have e2 : (xs.zip ys).map Prod.snd = ys := by rw [List.map_snd_zip (by omega)]
 refine ⟨⟨?_, fun p hp => hz p.2 ?_⟩, e1, e2⟩
 ·have e3 : (xs.zip ys).map (fun p => f p.1) = xs.map f := by
   conv => rhs; rw [← e1, List.map_map]
   rfl
  rw [e2, e3]; exact h
 ·rw [← e2]; exact List.mem_map.2 ⟨p, hp, rfl⟩
end
section
variable {X : Type} {es : Nat} {f : X → D}
theorem Prs.nil : Prs es f [] Mem.nil := ⟨OwnRows.nil es, fun p hp => by simp at hp⟩
theorem Prs.sub {ps ps' : List (X × Value)} (h : ps'.Sublist ps) : ∀ {g : Mem}, Prs es f ps g → ∃ g' : Mem, g'.Le g ∧ Prs es f ps' g' := by
 induction h with
 | slnil => exact fun {g} h => ⟨g, Mem.Le.refl _, h⟩
 | cons p _ ih =>
  intro g h
  obtain ⟨g1, g2, hp, h1, hn, h2⟩ := h.uncons
  obtain ⟨g', h3, h4⟩ := ih h2
  exact ⟨g', h3.trans hp.right, h4⟩
 | cons_cons p _ ih =>
  intro g h
  obtain ⟨g1, g2, hp, h1, hn, h2⟩ := h.uncons
  obtain ⟨g', h3, h4⟩ := ih h2
  have ha : Apart g1 g' := fun b hb => by
   have := hp.apart b hb
   cases e : g' b with
   | none => rfl
   | some o => rw [h3 b o e] at this; cases this
  exact ⟨g1.join g', join_le hp.left (h3.trans hp.right), Prs.cons (Parts.join ha) h1 hn (h.size _ (by simp)) h4⟩
end
end Go.Vx
namespace Go.Vx
open Go.Proofs Classical
theorem Gl.cl_eq (g : Gl) : g.cl = if g.kind = 0 then some [[]] else if g.kind = 1 then some [] else if g.kind = 8 then Gl.clOr g.goals [] else if g.kind = 7 then Gl.clAnd g.goals [[]] else some [[g]] := by
 cases g; rw [Gl.cl]; rfl
theorem prodC_len (a l : List (List Gl)) : (prodC a l).length = a.length * l.length := by
 unfold prodC
 induction a with
 | nil => simp
 | cons x a ih => rw [List.flatMap_cons, List.length_append, ih, List.length_map, List.length_cons, Nat.succ_mul]; omega
theorem prodC_step {a l : List (List Gl)} {j : Nat} {x : List Gl} (h : a[j]? = some x) : prodC (a.take (j + 1)) l = prodC (a.take j) l ++ l.map fun y => x ++ y := by
 rw [prodC, List.take_add_one, h, Option.toList_some, List.flatMap_append]
 simp [prodC]
section
variable {μ : Mem}
theorem csD_inv {c : List Gl} {v : Value} (h : RepV μ (csD c) v) : ∃ p : Option Addr × Nat, v = .slice p.1 c.length p.2 := by
 have w_ := Rep.sl (xs := c.map Gl.d) h
 obtain ⟨b, k, rfl, _⟩ := w_
 exact ⟨(b, k), by rw [List.length_map]⟩
theorem cls_elem {L : List (List Gl)} {base : Option Addr} {n : Nat} (h : Sl μ 1 base n (L.map csD)) {i : Nat} {c : List Gl} (hc : L[i]? = some c) :
  ∃ ad, ∃ p : Option Addr × Nat, ElemAt μ base n 1 i ad [.slice p.1 c.length p.2] ∧ RepV μ (csD c) (.slice p.1 c.length p.2) := by
 have w_ := h.get i (csD c) (by simp [hc])
 obtain ⟨ad, cs, h1, h2⟩ := w_
 have h3 : Rep μ (.sl 4 (c.map Gl.d)) cs := h2
 have hl := Rep.len _ _ h3
 match cs, hl with
 | [v], _ =>
  have w_ := csD_inv (c := c) h3
  obtain ⟨p, rfl⟩ := w_
  exact ⟨ad, p, h1, h3⟩
theorem csD_src {c : List Gl} {p : Option Addr × Nat} (h : RepV μ (csD c) (.slice p.1 c.length p.2)) : ∃ vs, Rows μ 4 (c.map Gl.d) vs ∧ vs.length = c.length ∧ SrcAt μ p.1 c.length 4 vs := Rep.srcAll h
set_option maxHeartbeats 8000000 in
theorem l16Clauses_spec : ∀ (g : Gl) {μ : Mem} {v : Value}, RepV μ g.d v → g.Sh → g.cnt ≤ 80 → Spec Tryz.prog 142 [v] μ fun v μ' => ∃ L, ClsOk μ' g v L :=
 Gl.ind fun g ih μ v hv hS hcnt => by
  have hv0 := hv
  have w_ := Gl.inv hv
  obtain ⟨p, rfl, hts, hgs⟩ := w_
  have hg8 := hS.top.gl
  have hce := Gl.cnt_eq1 g
  refine Spec.mk Tryz.func142 (by kernel_rfl) ?_
  intro r1 r15
  refine ifd (fun h0 => ?_) (fun h0 => ?_)
  ·intro r20 μ1 hle1 hno1 hat1 r21
   refine rFz [3] fun μ2 hle2 hno2 hat2 => .inl ⟨[[]], ?_, ?_, ?_, ?_⟩
   ·exact Rows.sl hat2 (Rows.one (d := csD []) ((Rows.sl (μ := μ1) (ds := []) hat1 .nil (Nat.zero_le _)).mono hle2) rfl) (show 1 ≤ maxLen by decide)
   ·rw [Gl.cl_eq, if_pos h0]; rfl
   ·simp
   ·simp
  refine ifd (fun h1 => ?_) (fun h1 => ?_)
  ·refine rFz [1] fun μ2 hle2 hno2 hat2 => .inl ⟨[], ?_, ?_, ?_, ?_⟩
   ·exact Rows.sl hat2 .nil (Nat.zero_le _)
   ·rw [Gl.cl_eq, if_neg h0, if_pos h1]; rfl
   ·simp
   ·simp
  refine ifd (fun h8 => ?_) (fun h8 => ?_)
  ·have hcl : g.cl = Gl.clOr g.goals [] := by rw [Gl.cl_eq, if_neg h0, if_neg h1, if_pos h8]
   refine lIn (fun q : Nat × List (List Gl) × Option Nat × Nat × List Value × Mem => q.1 ≤ g.goals.length ∧ μ.Le q.2.2.2.2.2 ∧ Rows q.2.2.2.2.2 1 (q.2.1.map csD) q.2.2.2.2.1 ∧ g.cl = (if q.2.1.length ≤ 64 then Gl.clOr (g.goals.drop q.1) q.2.1 else none) ∧ (∀ c ∈ q.2.1, c.length ≤ Gl.cnts (g.goals.take q.1)) ∧ q.2.1.length ≤ 64 * q.1)
    (fun (i, acc, b, c, ys, μ') => ⟨[(3, .row 1 b ys.length c), (28, .val (.slice p.2.1 g.goals.length p.2.2)), (29, .val (.int .i64 g.goals.length)), (30, .val (.int .i64 i))], [(1, some (.row b c 28 1 ys))], 2, μ', Mem.nil⟩) (fun q => g.goals.length - q.1)
    (0, [], some r15, 0, [], μ) ⟨Nat.zero_le _, Mem.Le.refl _, .nil, by rw [hcl]; rfl, by simp, by simp⟩ (fun (_, _, _, _, _, _) => ⟨rfl, rfl⟩) ⟨⟨rfl, rfl, rfl, rfl, trivial⟩, ⟨rfl, trivial⟩, rfl, rfl⟩ ?_
   rintro ⟨i, acc, b, c, ys, μ'⟩ ⟨hi, hle, hrows, hJ, hlen, hmax⟩
   dsimp only at hi hle hrows hJ hlen hmax
   have hyl := hrows.len
   rw [List.length_map] at hyl
   refine ifd (fun hlt => ?_) (fun hlt => ?_)
   ·have w_ := aSo (l := g.goals) (i := i) (by omega)
    obtain ⟨x, hx⟩ := w_
    have w_ := Gl.elem (hgs.mono hle) hx
    obtain ⟨ad, q, hel, hr⟩ := w_
    have hxc := Gl.cnts_take hx
    have hxl := Gl.cnts_le g.goals (i + 1)
    refine eIn hel ?_
    intro r5
    refine cPl (ih x (mAt hx) hr (hS.sub x (mAt hx)) (by omega)) fun v1 μ1 hle1 hR => ?_
    obtain ⟨L, hL⟩ := hR
    obtain ⟨pv, rfl⟩ := hL.rep.inv
    have w_ := Rep.srcAll hL.rep
    obtain ⟨vs, hvr, hvl, hsrc⟩ := w_
    have hLm := hL.max
    rw [drop_at hx, Gl.clOr, hL.cl] at hJ
    refine src_intro vs hsrc ?_
    refine gIn ?_ ?_ fun b9 c9 _ => ?_
    ·show (ys.length + vs.length) * 24 ≤ _; omega
    ·exact Nat.le_trans (m := 100000000) (show ys.length + vs.length ≤ _ by omega) (by decide)
    refine ifd (fun h64 => ?_) (fun h64 => ?_)
    ·refine rPl ⟨L, hL.rep, ?_, fun c hc => Nat.le_trans (hL.len c hc) (by omega), hLm⟩
     rw [if_neg (show ¬ L.length ≤ 64 by omega)] at hJ ⊢
     rw [hJ]
     split <;> rfl
    ·rw [if_pos (show L.length ≤ 64 by omega), Option.bind_some] at hJ
     refine num64 (by omega) (by omega) ⟨(i + 1, acc ++ L, b9, c9, _, μ1), ⟨by dsimp only; omega, hle.trans hle1, ?_, ?_, ?_, ?_⟩, by dsimp only; omega, ⟨⟨rfl, rfl, rfl, rfl, trivial⟩, ⟨rfl, trivial⟩, rfl, rfl⟩⟩
     ·dsimp only
      rw [List.map_append]
      exact (hrows.mono hle1).append hvr
     ·dsimp only
      rw [hJ]
      by_cases ha : acc.length ≤ 64
      ·rw [if_pos ha]
      ·rw [if_neg ha, if_neg (by rw [List.length_append]; omega)]
     ·dsimp only
      intro c hc
      rcases List.mem_append.1 hc with hc | hc
      ·have := hlen c hc; omega
      ·have := hL.len c hc; omega
     ·dsimp only
      rw [List.length_append]; omega
   ·obtain rfl : i = g.goals.length := by omega
    rw [List.drop_length, Gl.clOr] at hJ
    rw [List.take_length] at hlen
    refine rFz [1] fun μ2 hle2 hno2 hat2 => .inl ⟨acc, ?_, hJ, fun c hc => by have := hlen c hc; omega, by omega⟩
    exact Rows.sl hat2 (hrows.mono hle2) (Nat.le_trans (m := 100000000) (by omega) (by decide))
  refine ifd (fun h7 => ?_) (fun h7 => ?_)
  rotate_left
  ·intro r96 μ1 hle1 hno1 hat1 r97
   refine gIn ?_ ?_ fun b9 c9 _ => ?_
   ·show (0 + 1) * 24 ≤ _; decide
   ·show 0 + 1 ≤ maxLen; decide
   refine rFz [1] fun μ2 hle2 hno2 hat2 => .inl ⟨[[g]], ?_, ?_, ?_, ?_⟩
   ·refine Rows.sl hat2 (Rows.one (d := csD [g]) ((Rows.sl (μ := μ1) (ds := [g.d]) hat1 (Rows.one (hv0.mono hle1) (Gl.d_n g)) (show 1 ≤ maxLen by decide)).mono hle2) rfl) (show 1 ≤ maxLen by decide)
   ·rw [Gl.cl_eq, if_neg h0, if_neg h1, if_neg h8, if_neg h7]; rfl
   ·intro c hc
    rw [List.mem_singleton.1 hc]
    have := g.cnt_pos
    simpa using this
   ·simp
  have hcl : g.cl = Gl.clAnd g.goals [[]] := by rw [Gl.cl_eq, if_neg h0, if_neg h1, if_neg h8, if_pos h7]
  intro r48 μ1 hle1 hno1 hat1 r49
  refine gIn ?_ ?_ fun b9 c9 _ => ?_
  ·show (0 + 1) * 24 ≤ _; decide
  ·show 0 + 1 ≤ maxLen; decide
  refine lFz (fun q : Nat × List (List Gl) × Option Addr × Nat × Mem => q.1 ≤ g.goals.length ∧ μ.Le q.2.2.2.2 ∧ Cls q.2.2.2.2 q.2.1 (.slice q.2.2.1 q.2.1.length q.2.2.2.1) ∧ g.cl = Gl.clAnd (g.goals.drop q.1) q.2.1 ∧ (∀ c ∈ q.2.1, c.length ≤ Gl.cnts (g.goals.take q.1)) ∧ q.2.1.length ≤ 64)
   (fun (i, acc, b, c, μ') => ⟨[(3, .val (.slice b acc.length c)), (52, .val (.slice p.2.1 g.goals.length p.2.2)), (53, .val (.int .i64 g.goals.length)), (54, .val (.int .i64 i))], [], 0, μ', Mem.nil⟩) (fun q => g.goals.length - q.1) [1]
   (fun (_, _, _, _, _) => ⟨rfl, rfl⟩) (fun μ2 hle2 hno2 hat2 => ⟨(0, [[]], b9.map (fun r => ⟨r, 0, none⟩), c9, μ2), ⟨Nat.zero_le _, hle1.trans hle2, Rows.sl hat2 (Rows.one (d := csD []) ((Rows.sl (μ := μ1) (ds := []) hat1 .nil (Nat.zero_le _)).mono hle2) rfl) (show 1 ≤ maxLen by decide), hcl, by simp, by simp⟩, ⟨rfl, rfl, rfl, rfl, trivial⟩, trivial, rfl, rfl⟩) ?_
  rintro ⟨i, acc, b, c, μ'⟩ ⟨hi, hle, hacc, hJ, hlen, hmax⟩
  dsimp only at hi hle hacc hJ hlen hmax
  refine ifd (fun hlt => ?_) (fun hlt => ?_)
  rotate_left
  ·obtain rfl : i = g.goals.length := by omega
   rw [List.drop_length, Gl.clAnd] at hJ
   rw [List.take_length] at hlen
   exact rPl ⟨acc, hacc, by rw [hJ, if_pos hmax], fun c hc => by have := hlen c hc; omega, by omega⟩
  have w_ := aSo (l := g.goals) (i := i) (by omega)
  obtain ⟨x, hx⟩ := w_
  have w_ := Gl.elem (hgs.mono hle) hx
  obtain ⟨ad, q, hel, hr⟩ := w_
  have hxc := Gl.cnts_take hx
  have hxl := Gl.cnts_le g.goals (i + 1)
  refine eIn hel ?_
  intro r8
  refine cPl (ih x (mAt hx) hr (hS.sub x (mAt hx)) (by omega)) fun v3 μ3 hle3 hR => ?_
  obtain ⟨L, hL⟩ := hR
  obtain ⟨pv, rfl⟩ := hL.rep.inv
  have hLm := hL.max
  rw [drop_at hx, Gl.clAnd, hL.cl] at hJ
  refine ifd (fun h64 => ?_) (fun h64 => ?_)
  ·refine rPl ⟨L, hL.rep, ?_, fun c hc => Nat.le_trans (hL.len c hc) (by omega), hLm⟩
   rw [if_neg (show ¬ L.length ≤ 64 by omega)] at hJ ⊢
   exact hJ
  rw [if_pos (show L.length ≤ 64 by omega), Option.bind_some] at hJ
  intro r64
  have hasl := (Cls.sl (RepV.mono hle3 hacc)).1
  refine lIn (fun q : Nat × Option Nat × Nat × List Value × Mem => q.1 ≤ acc.length ∧ μ3.Le q.2.2.2.2 ∧ Rows q.2.2.2.2 1 ((prodC (acc.take q.1) L).map csD) q.2.2.2.1)
   (fun (j, b1, c1, ys, μ4) => ⟨[(9, .val (.slice pv.1 L.length pv.2)), (10, .row 1 b1 ys.length c1), (52, .val (.slice p.2.1 g.goals.length p.2.2)), (53, .val (.int .i64 g.goals.length)), (54, .val (.int .i64 i)), (65, .val (.slice b acc.length c)), (66, .val (.int .i64 acc.length)), (67, .val (.int .i64 j))], [(1, some (.row b1 c1 28 1 ys))], 2, μ4, Mem.nil⟩) (fun q => acc.length - q.1)
   (0, some r64, 0, [], μ3) ⟨Nat.zero_le _, Mem.Le.refl _, .nil⟩ (fun (_, _, _, _, _) => ⟨rfl, rfl⟩) ⟨⟨rfl, rfl, rfl, rfl, rfl, rfl, rfl, rfl, trivial⟩, ⟨rfl, trivial⟩, rfl, rfl⟩ ?_
  rintro ⟨j, b1, c1, ys, μ4⟩ ⟨hj, hle4, hrows⟩
  dsimp only at hj hle4 hrows
  have hyl := hrows.len
  rw [List.length_map, prodC_len, List.length_take] at hyl
  have hmul : min j acc.length * L.length ≤ 64 * 64 := Nat.mul_le_mul (by omega) (by omega)
  refine ifd (fun hlt2 => ?_) (fun hlt2 => ?_)
  ·have w_ := aSo (l := acc) (i := j) (by omega)
   obtain ⟨xa, hxa⟩ := w_
   have w_ := cls_elem (hasl.mono hle4) hxa
   obtain ⟨ad2, pa, hel2, hra⟩ := w_
   have hxal := hlen xa (mAt hxa)
   have hmul2 : j * L.length ≤ 64 * 64 := Nat.mul_le_mul (by omega) (by omega)
   rw [Nat.min_eq_left (by omega)] at hyl
   refine eIn hel2 ?_
   refine lIn (fun q : Nat × Option Nat × Nat × List Value × Mem => q.1 ≤ L.length ∧ μ4.Le q.2.2.2.2 ∧ Rows q.2.2.2.2 1 ((prodC (acc.take j) L ++ (L.take q.1).map fun y => xa ++ y).map csD) q.2.2.2.1)
    (fun (k, b1, c1, ys, μ5) => ⟨[(9, .val (.slice pv.1 L.length pv.2)), (10, .row 1 b1 ys.length c1), (12, .val (.slice pa.1 xa.length pa.2)), (52, .val (.slice p.2.1 g.goals.length p.2.2)), (53, .val (.int .i64 g.goals.length)), (54, .val (.int .i64 i)), (65, .val (.slice b acc.length c)), (66, .val (.int .i64 acc.length)), (67, .val (.int .i64 j)), (71, .val (.slice pv.1 L.length pv.2)), (72, .val (.int .i64 L.length)), (73, .val (.int .i64 k))], [(1, some (.row b1 c1 28 1 ys))], 2, μ5, Mem.nil⟩) (fun q => L.length - q.1)
    (0, b1, c1, ys, μ4) ⟨Nat.zero_le _, Mem.Le.refl _, by simpa using hrows⟩ (fun (_, _, _, _, _) => ⟨rfl, rfl⟩) ⟨⟨rfl, rfl, rfl, rfl, rfl, rfl, rfl, rfl, rfl, rfl, rfl, rfl, trivial⟩, ⟨rfl, trivial⟩, rfl, rfl⟩ ?_
   clear hrows
   rintro ⟨k, b2, c2, zs, μ5⟩ ⟨hk, hle5, hrows2⟩
   dsimp only at hk hle5 hrows2
   have hzl := hrows2.len
   rw [List.length_map, List.length_append, prodC_len, List.length_map, List.length_take, List.length_take, Nat.min_eq_left (show j ≤ acc.length by omega), Nat.min_eq_left hk] at hzl
   refine ifd (fun hlt3 => ?_) (fun hlt3 => ?_)
   ·have w_ := aSo (l := L) (i := k) (by omega)
    obtain ⟨y, hy⟩ := w_
    have w_ := cls_elem (((Cls.sl hL.rep).1.mono hle4).mono hle5) hy
    obtain ⟨ad3, py, hel3, hry⟩ := w_
    have hyl2 := hL.len y (mAt hy)
    have w_ := csD_src (hra.mono hle5)
    obtain ⟨vx, hvx, hvxl, hsx⟩ := w_
    have w_ := csD_src hry
    obtain ⟨vy, hvy, hvyl, hsy⟩ := w_
    refine eIn hel3 ?_
    intro r78
    refine src_intro vx hsx ?_
    refine gIn ?_ ?_ fun b6 c6 _ => ?_
    ·show (0 + vx.length) * 72 ≤ _; omega
    ·exact Nat.le_trans (m := 100000000) (show 0 + vx.length ≤ _ by omega) (by decide)
    refine src_intro vy hsy ?_
    refine gIn ?_ ?_ fun b7 c7 _ => ?_
    ·show ((([] : List Value) ++ vx).length + vy.length) * 72 ≤ _; simp; omega
    ·exact Nat.le_trans (m := 100000000) (show (([] : List Value) ++ vx).length + vy.length ≤ _ by simp; omega) (by decide)
    intro μ6 hle6 hno6 hat6 r83
    refine gIn ?_ ?_ fun b8 c8 _ => ?_
    ·show (zs.length + 1) * 24 ≤ _; omega
    ·exact Nat.le_trans (m := 100000000) (show zs.length + 1 ≤ _ by omega) (by decide)
    have hrow : RepV μ6 (csD (xa ++ y)) (.slice (b7.map fun r => ⟨r, 0, none⟩) (([] : List Value) ++ vx ++ vy).length c7) := by
     have := Rows.sl hat6 ((hvx.append hvy).mono hle6) (Nat.le_trans (m := 100000000) (by simp; omega) (by decide))
     rw [← List.map_append] at this
     exact this
    refine num64 (by omega) (by omega) ⟨(k + 1, b8, c8, _, μ6), ⟨by dsimp only; omega, hle5.trans hle6, ?_⟩, by dsimp only; omega, ⟨⟨rfl, rfl, rfl, rfl, rfl, rfl, rfl, rfl, rfl, rfl, rfl, rfl, trivial⟩, ⟨rfl, trivial⟩, rfl, rfl⟩⟩
    dsimp only
    rw [List.take_add_one, hy, Option.toList_some, List.map_append (f := fun y => xa ++ y), ← List.append_assoc, List.map_append (f := csD)]
    exact (hrows2.mono hle6).append (Rows.one hrow rfl)
   ·obtain rfl : k = L.length := by omega
    rw [List.take_length, ← prodC_step hxa] at hrows2
    exact num64 (by omega) (by omega) ⟨(j + 1, b2, c2, zs, μ5), ⟨by dsimp only; omega, hle4.trans hle5, hrows2⟩, by dsimp only; omega, ⟨⟨rfl, rfl, rfl, rfl, rfl, rfl, rfl, rfl, trivial⟩, ⟨rfl, trivial⟩, rfl, rfl⟩⟩
  ·obtain rfl : j = acc.length := by omega
   rw [List.take_length] at hrows
   rw [Nat.min_self] at hyl hmul
   have hpl := prodC_len acc L
   have hzlen : ∀ c ∈ prodC acc L, c.length ≤ Gl.cnts (g.goals.take (i + 1)) := fun c hc => by
    have w_ := prodC_mem hc
    obtain ⟨u, hu, w, hw, rfl⟩ := w_
    have h1 := hlen u hu
    have h2 := hL.len w hw
    rw [List.length_append]; omega
   refine ifd (fun hb => ?_) (fun hb => ?_)
   ·refine rFz [1] fun μ5 hle5 hno5 hat5 => .inl ⟨prodC acc L, ?_, ?_, fun c hc => by have := hzlen c hc; omega, by omega⟩
    ·have := Rows.sl hat5 (hrows.mono hle5) (Nat.le_trans (m := 100000000) (by omega) (by decide))
     exact this
    ·rw [if_neg (by omega)] at hJ ⊢
     exact hJ
   ·rw [if_pos (by omega)] at hJ
    refine num64 (by omega) (by omega) ⟨[1], fun μ5 hle5 hno5 hat5 => ⟨(i + 1, prodC acc L, b1.map (fun r => ⟨r, 0, none⟩), c1, μ5), ⟨by dsimp only; omega, ((hle.trans hle3).trans hle4).trans hle5, ?_, hJ, hzlen, by dsimp only; omega⟩, by dsimp only; omega, ⟨⟨?_, rfl, rfl, rfl, trivial⟩, trivial, rfl, rfl⟩⟩⟩
    ·have := Rows.sl hat5 (hrows.mono hle5) (Nat.le_trans (m := 100000000) (by omega) (by decide))
     rw [← hyl, ← hpl] at this
     exact this
    ·show some (SV.val (.slice _ _ _)) = some (SV.val (.slice _ _ _))
     rw [hpl, hyl]
end
end Go.Vx
namespace Go.Vx
open Go.Proofs Classical
theorem prodC_size {a l : List (List Gl)} {m n : Nat} (h1 : ∀ c ∈ a, c.length ≤ m) (h2 : ∀ c ∈ l, c.length ≤ n) : ∀ c ∈ prodC a l, c.length ≤ m + n := fun c hc => by
 have w_ := prodC_mem hc
 obtain ⟨u, hu, w, hw, rfl⟩ := w_
 have := h1 u hu
 have := h2 w hw
 rw [List.length_append]; omega
mutual
theorem Gl.cl_bnd : ∀ (g : Gl) {L : List (List Gl)}, g.cl = some L → (∀ c ∈ L, c.length ≤ g.cnt) ∧ L.length ≤ 64
 | .mk k s ts gs, L, h => by
  rw [Gl.cl] at h
  rw [Gl.cnt]
  split at h
  ·cases h; simp
  split at h
  ·cases h; simp
  split at h
  ·have := Gl.clOr_bnd gs (acc := []) (n := 0) (by simp) (by simp) h
   exact ⟨fun c hc => by have := this.1 c hc; omega, this.2⟩
  split at h
  ·have := Gl.clAnd_bnd gs (acc := [[]]) (n := 0) (by simp) (by simp) h
   exact ⟨fun c hc => by have := this.1 c hc; omega, this.2⟩
  ·cases h
   refine ⟨fun c hc => ?_, by simp⟩
   rw [List.mem_singleton.1 hc, List.length_singleton]; omega
theorem Gl.clOr_bnd : ∀ (gs : List Gl) {acc L : List (List Gl)} {n : Nat}, (∀ c ∈ acc, c.length ≤ n) → acc.length ≤ 64 → Gl.clOr gs acc = some L → (∀ c ∈ L, c.length ≤ n + Gl.cnts gs) ∧ L.length ≤ 64
 | [], acc, L, n, h1, h2, h => by
  rw [Gl.clOr] at h; cases h
  exact ⟨fun c hc => Nat.le_trans (h1 c hc) (Nat.le_add_right _ _), h2⟩
 | g :: gs, acc, L, n, h1, h2, h => by
  rw [Gl.clOr] at h
  cases e : g.cl with
  | none => rw [e] at h; cases h
  | some l =>
   rw [e, Option.bind_some] at h
   have hb := Gl.cl_bnd g e
   split at h
   ·rename_i h64
    have := Gl.clOr_bnd gs (acc := acc ++ l) (n := n + g.cnt) (fun c hc => by
     rcases List.mem_append.1 hc with hc | hc
     ·have := h1 c hc; omega
     ·have := hb.1 c hc; omega) h64 h
    rw [Gl.cnts]
    exact ⟨fun c hc => by have := this.1 c hc; omega, this.2⟩
   ·cases h
theorem Gl.clAnd_bnd : ∀ (gs : List Gl) {acc L : List (List Gl)} {n : Nat}, (∀ c ∈ acc, c.length ≤ n) → acc.length ≤ 64 → Gl.clAnd gs acc = some L → (∀ c ∈ L, c.length ≤ n + Gl.cnts gs) ∧ L.length ≤ 64
 | [], acc, L, n, h1, h2, h => by
  rw [Gl.clAnd] at h; cases h
  exact ⟨fun c hc => Nat.le_trans (h1 c hc) (Nat.le_add_right _ _), h2⟩
 | g :: gs, acc, L, n, h1, h2, h => by
  rw [Gl.clAnd] at h
  cases e : g.cl with
  | none => rw [e] at h; cases h
  | some l =>
   rw [e, Option.bind_some] at h
   have hb := Gl.cl_bnd g e
   split at h
   ·rename_i h64
    have := Gl.clAnd_bnd gs (acc := prodC acc l) (n := n + g.cnt) (prodC_size h1 hb.1) h64 h
    rw [Gl.cnts]
    exact ⟨fun c hc => by have := this.1 c hc; omega, this.2⟩
   ·cases h
end
def optC (P : List (List Gl) → Value → Prop) (o : Option (List (List Gl))) (v : Value) : Prop := match o with
 | some L => ∃ tv, v = .tuple #[tv, .bool true] ∧ P L tv
 | none => v = .tuple #[.slice none 0 0, .bool false]
section
variable {μ : Mem}
set_option maxHeartbeats 8000000 in
theorem clausesOf_spec : ∀ (g : Gl) {μ : Mem} {v : Value}, RepV μ g.d v → g.Sh → g.cnt ≤ 80 → Spec Tryz.prog 146 [v] μ fun v μ' => optC (Cls μ') g.cl v :=
 Gl.ind fun g ih μ v hv hS hcnt => by
  have hv0 := hv
  have w_ := Gl.inv hv
  obtain ⟨p, rfl, hts, hgs⟩ := w_
  have hg8 := hS.top.gl
  have hce := Gl.cnt_eq1 g
  refine Spec.mk Tryz.func146 (by kernel_rfl) ?_
  intro r1 r19
  refine ifd (fun h0 => ?_) (fun h0 => ?_)
  ·intro r27 μ1 hle1 hno1 hat1 r28
   refine rFz [3] fun μ2 hle2 hno2 hat2 => .inl ?_
   rw [Gl.cl_eq, if_pos h0]
   exact ⟨_, rfl, Rows.sl hat2 (Rows.one (d := csD []) ((Rows.sl (μ := μ1) (ds := []) hat1 .nil (Nat.zero_le _)).mono hle2) rfl) (show 1 ≤ maxLen by decide)⟩
  refine ifd (fun h1 => ?_) (fun h1 => ?_)
  ·refine rFz [1] fun μ2 hle2 hno2 hat2 => .inl ?_
   rw [Gl.cl_eq, if_neg h0, if_pos h1]
   exact ⟨_, rfl, Rows.sl hat2 .nil (Nat.zero_le _)⟩
  refine ifd (fun h8 => ?_) (fun h8 => ?_)
  ·have hcl : g.cl = Gl.clOr g.goals [] := by rw [Gl.cl_eq, if_neg h0, if_neg h1, if_pos h8]
   refine lIn (fun q : Nat × List (List Gl) × Option Nat × Nat × List Value × Mem => q.1 ≤ g.goals.length ∧ μ.Le q.2.2.2.2.2 ∧ Rows q.2.2.2.2.2 1 (q.2.1.map csD) q.2.2.2.2.1 ∧ g.cl = Gl.clOr (g.goals.drop q.1) q.2.1 ∧ q.2.1.length ≤ 64)
    (fun (i, acc, b, c, ys, μ') => ⟨[(4, .row 1 b ys.length c), (34, .val (.slice p.2.1 g.goals.length p.2.2)), (35, .val (.int .i64 g.goals.length)), (36, .val (.int .i64 i))], [(1, some (.row b c 28 1 ys))], 2, μ', Mem.nil⟩) (fun q => g.goals.length - q.1)
    (0, [], some r19, 0, [], μ) ⟨Nat.zero_le _, Mem.Le.refl _, .nil, hcl, by simp⟩ (fun (_, _, _, _, _, _) => ⟨rfl, rfl⟩) ⟨⟨rfl, rfl, rfl, rfl, trivial⟩, ⟨rfl, trivial⟩, rfl, rfl⟩ ?_
   rintro ⟨i, acc, b, c, ys, μ'⟩ ⟨hi, hle, hrows, hJ, hmax⟩
   dsimp only at hi hle hrows hJ hmax
   have hyl := hrows.len
   rw [List.length_map] at hyl
   refine ifd (fun hlt => ?_) (fun hlt => ?_)
   ·have w_ := aSo (l := g.goals) (i := i) (by omega)
    obtain ⟨x, hx⟩ := w_
    have w_ := Gl.elem (hgs.mono hle) hx
    obtain ⟨ad, q, hel, hr⟩ := w_
    have hxc := Gl.cnts_take hx
    have hxl := Gl.cnts_le g.goals (i + 1)
    refine eIn hel ?_
    intro r5
    refine cPl (ih x (mAt hx) hr (hS.sub x (mAt hx)) (by omega)) fun v1 μ1 hle1 hR => ?_
    rw [drop_at hx, Gl.clOr] at hJ
    cases e : x.cl with
    | none =>
     rw [e] at hR hJ
     obtain rfl := hR
     refine iIn (fun _ => ?_) (fun h => nomatch h)
     exact rPl (by rw [hJ]; rfl)
    | some L =>
     rw [e] at hR
     rw [e, Option.bind_some] at hJ
     obtain ⟨tv, rfl, hLr⟩ := hR
     obtain ⟨pv, rfl⟩ := hLr.inv
     have hLb := Gl.cl_bnd x e
     have w_ := Rep.srcAll hLr
     obtain ⟨vs, hvr, hvl, hsrc⟩ := w_
     refine iIn (fun h => nomatch h) (fun _ => ?_)
     refine src_intro vs hsrc ?_
     refine gIn ?_ ?_ fun b9 c9 _ => ?_
     ·show (ys.length + vs.length) * 24 ≤ _; omega
     ·exact Nat.le_trans (m := 100000000) (show ys.length + vs.length ≤ _ by omega) (by decide)
     have hal : (ys ++ vs).length = (acc ++ L).length := by rw [List.length_append, List.length_append]; omega
     refine ifd (fun h64 => ?_) (fun h64 => ?_)
     ·rw [if_neg (by omega)] at hJ
      exact rPl (by rw [hJ]; rfl)
     ·rw [if_pos (by omega)] at hJ
      refine num64 (by omega) (by omega) ⟨(i + 1, acc ++ L, b9, c9, _, μ1), ⟨by dsimp only; omega, hle.trans hle1, ?_, hJ, by dsimp only; omega⟩, by dsimp only; omega, ⟨⟨rfl, rfl, rfl, rfl, trivial⟩, ⟨rfl, trivial⟩, rfl, rfl⟩⟩
      dsimp only
      rw [List.map_append]
      exact (hrows.mono hle1).append hvr
   ·obtain rfl : i = g.goals.length := by omega
    rw [List.drop_length, Gl.clOr] at hJ
    refine rFz [1] fun μ2 hle2 hno2 hat2 => .inl ?_
    rw [hJ]
    exact ⟨_, rfl, Rows.sl hat2 (hrows.mono hle2) (Nat.le_trans (m := 100000000) (by omega) (by decide))⟩
  refine ifd (fun h7 => ?_) (fun h7 => ?_)
  rotate_left
  ·intro r23 μ1 hle1 hno1 hat1 r24
   refine rFz [3] fun μ2 hle2 hno2 hat2 => .inl ?_
   rw [Gl.cl_eq, if_neg h0, if_neg h1, if_neg h8, if_neg h7]
   exact ⟨_, rfl, Rows.sl hat2 (Rows.one (d := csD [g]) ((Rows.sl (μ := μ1) (ds := [g.d]) hat1 (Rows.one (hv0.mono hle1) (Gl.d_n g)) (show 1 ≤ maxLen by decide)).mono hle2) rfl) (show 1 ≤ maxLen by decide)⟩
  have hcl : g.cl = Gl.clAnd g.goals [[]] := by rw [Gl.cl_eq, if_neg h0, if_neg h1, if_neg h8, if_pos h7]
  intro r56 μ1 hle1 hno1 hat1 r57
  refine lFz (fun q : Nat × List (List Gl) × Option Addr × Nat × Mem => q.1 ≤ g.goals.length ∧ μ.Le q.2.2.2.2 ∧ Cls q.2.2.2.2 q.2.1 (.slice q.2.2.1 q.2.1.length q.2.2.2.1) ∧ g.cl = Gl.clAnd (g.goals.drop q.1) q.2.1 ∧ (∀ c ∈ q.2.1, c.length ≤ Gl.cnts (g.goals.take q.1)) ∧ q.2.1.length ≤ 64)
   (fun (i, acc, b, c, μ') => ⟨[(4, .val (.slice b acc.length c)), (9, .val (.bool false)), (59, .val (.slice p.2.1 g.goals.length p.2.2)), (60, .val (.int .i64 g.goals.length)), (61, .val (.int .i64 i))], [], 0, μ', Mem.nil⟩) (fun q => g.goals.length - q.1) [3]
   (fun (_, _, _, _, _) => ⟨rfl, rfl⟩) (fun μ2 hle2 hno2 hat2 => ⟨(0, [[]], some ⟨r57, 0, none⟩, 1, μ2), ⟨Nat.zero_le _, hle1.trans hle2, Rows.sl hat2 (Rows.one (d := csD []) ((Rows.sl (μ := μ1) (ds := []) hat1 .nil (Nat.zero_le _)).mono hle2) rfl) (show 1 ≤ maxLen by decide), hcl, by simp, by simp⟩, ⟨rfl, rfl, rfl, rfl, rfl, trivial⟩, trivial, rfl, rfl⟩) ?_
  rintro ⟨i, acc, b, c, μ'⟩ ⟨hi, hle, hacc, hJ, hlen, hmax⟩
  dsimp only at hi hle hacc hJ hlen hmax
  refine ifd (fun hlt => ?_) (fun hlt => ?_)
  rotate_left
  ·obtain rfl : i = g.goals.length := by omega
   rw [List.drop_length, Gl.clAnd] at hJ
   exact rPl (by rw [hJ]; exact ⟨_, rfl, hacc⟩)
  have w_ := aSo (l := g.goals) (i := i) (by omega)
  obtain ⟨x, hx⟩ := w_
  have w_ := Gl.elem (hgs.mono hle) hx
  obtain ⟨ad, q, hel, hr⟩ := w_
  have hxc := Gl.cnts_take hx
  have hxl := Gl.cnts_le g.goals (i + 1)
  refine eIn hel ?_
  intro r11
  refine cPl (ih x (mAt hx) hr (hS.sub x (mAt hx)) (by omega)) fun v3 μ3 hle3 hR => ?_
  rw [drop_at hx, Gl.clAnd] at hJ
  obtain ⟨o, e⟩ : ∃ o, x.cl = o := ⟨_, rfl⟩
  rw [e] at hR hJ
  match o, e, hR, hJ with
  | none, e, hR, hJ =>
  obtain rfl := hR
  refine iIn (fun _ => ?_) (fun h => nomatch h)
  exact rPl (by rw [hJ]; rfl)
  | some L, e, hR, hJ =>
  obtain ⟨tv, rfl, hLr⟩ := hR
  obtain ⟨pv, rfl⟩ := hLr.inv
  have hLb := Gl.cl_bnd x e
  have hLl := hLb.1
  have hLm := hLb.2
  rw [Option.bind_some] at hJ
  refine iIn (fun h => nomatch h) (fun _ => ?_)
  intro r64
  have hasl := (Cls.sl (RepV.mono hle3 hacc)).1
  refine lIn (fun q : Nat × Option Nat × Nat × List Value × Mem => q.1 ≤ acc.length ∧ μ3.Le q.2.2.2.2 ∧ Rows q.2.2.2.2 1 ((prodC (acc.take q.1) L).map csD) q.2.2.2.1)
   (fun (j, b1, c1, ys, μ4) => ⟨[(9, .val (.bool false)), (12, .val (.slice pv.1 L.length pv.2)), (14, .row 1 b1 ys.length c1), (59, .val (.slice p.2.1 g.goals.length p.2.2)), (60, .val (.int .i64 g.goals.length)), (61, .val (.int .i64 i)), (73, .val (.slice b acc.length c)), (74, .val (.int .i64 acc.length)), (75, .val (.int .i64 j))], [(1, some (.row b1 c1 28 1 ys))], 2, μ4, Mem.nil⟩) (fun q => acc.length - q.1)
   (0, some r64, 0, [], μ3) ⟨Nat.zero_le _, Mem.Le.refl _, .nil⟩ (fun (_, _, _, _, _) => ⟨rfl, rfl⟩) ⟨⟨rfl, rfl, rfl, rfl, rfl, rfl, rfl, rfl, rfl, trivial⟩, ⟨rfl, trivial⟩, rfl, rfl⟩ ?_
  rintro ⟨j, b1, c1, ys, μ4⟩ ⟨hj, hle4, hrows⟩
  dsimp only at hj hle4 hrows
  have hyl := hrows.len
  rw [List.length_map, prodC_len, List.length_take] at hyl
  have hmul : min j acc.length * L.length ≤ 64 * 64 := Nat.mul_le_mul (by omega) (by omega)
  refine ifd (fun hlt2 => ?_) (fun hlt2 => ?_)
  ·have w_ := aSo (l := acc) (i := j) (by omega)
   obtain ⟨xa, hxa⟩ := w_
   have w_ := cls_elem (hasl.mono hle4) hxa
   obtain ⟨ad2, pa, hel2, hra⟩ := w_
   have hxal := hlen xa (mAt hxa)
   have hmul2 : j * L.length ≤ 64 * 64 := Nat.mul_le_mul (by omega) (by omega)
   rw [Nat.min_eq_left (by omega)] at hyl
   refine eIn hel2 ?_
   refine lIn (fun q : Nat × Option Nat × Nat × List Value × Mem => q.1 ≤ L.length ∧ μ4.Le q.2.2.2.2 ∧ Rows q.2.2.2.2 1 ((prodC (acc.take j) L ++ (L.take q.1).map fun y => xa ++ y).map csD) q.2.2.2.1)
    (fun (k, b1, c1, ys, μ5) => ⟨[(9, .val (.bool false)), (12, .val (.slice pv.1 L.length pv.2)), (14, .row 1 b1 ys.length c1), (16, .val (.slice pa.1 xa.length pa.2)), (59, .val (.slice p.2.1 g.goals.length p.2.2)), (60, .val (.int .i64 g.goals.length)), (61, .val (.int .i64 i)), (73, .val (.slice b acc.length c)), (74, .val (.int .i64 acc.length)), (75, .val (.int .i64 j)), (79, .val (.slice pv.1 L.length pv.2)), (80, .val (.int .i64 L.length)), (81, .val (.int .i64 k))], [(1, some (.row b1 c1 28 1 ys))], 2, μ5, Mem.nil⟩) (fun q => L.length - q.1)
    (0, b1, c1, ys, μ4) ⟨Nat.zero_le _, Mem.Le.refl _, by simpa using hrows⟩ (fun (_, _, _, _, _) => ⟨rfl, rfl⟩) ⟨⟨rfl, rfl, rfl, rfl, rfl, rfl, rfl, rfl, rfl, rfl, rfl, rfl, rfl, trivial⟩, ⟨rfl, trivial⟩, rfl, rfl⟩ ?_
   clear hrows
   rintro ⟨k, b2, c2, zs, μ5⟩ ⟨hk, hle5, hrows2⟩
   dsimp only at hk hle5 hrows2
   have hzl := hrows2.len
   rw [List.length_map, List.length_append, prodC_len, List.length_map, List.length_take, List.length_take, Nat.min_eq_left (show j ≤ acc.length by omega), Nat.min_eq_left hk] at hzl
   refine ifd (fun hlt3 => ?_) (fun hlt3 => ?_)
   ·have w_ := aSo (l := L) (i := k) (by omega)
    obtain ⟨y, hy⟩ := w_
    have w_ := cls_elem (((Cls.sl hLr).1.mono hle4).mono hle5) hy
    obtain ⟨ad3, py, hel3, hry⟩ := w_
    have hyl2 := hLl y (mAt hy)
    have w_ := csD_src (hra.mono hle5)
    obtain ⟨vx, hvx, hvxl, hsx⟩ := w_
    have w_ := csD_src hry
    obtain ⟨vy, hvy, hvyl, hsy⟩ := w_
    refine eIn hel3 ?_
    intro r78
    refine src_intro vx hsx ?_
    refine gIn ?_ ?_ fun b6 c6 _ => ?_
    ·show (0 + vx.length) * 72 ≤ _; omega
    ·exact Nat.le_trans (m := 100000000) (show 0 + vx.length ≤ _ by omega) (by decide)
    refine src_intro vy hsy ?_
    refine gIn ?_ ?_ fun b7 c7 _ => ?_
    ·show ((([] : List Value) ++ vx).length + vy.length) * 72 ≤ _; simp; omega
    ·exact Nat.le_trans (m := 100000000) (show (([] : List Value) ++ vx).length + vy.length ≤ _ by simp; omega) (by decide)
    intro μ6 hle6 hno6 hat6 r83
    refine gIn ?_ ?_ fun b8 c8 _ => ?_
    ·show (zs.length + 1) * 24 ≤ _; omega
    ·exact Nat.le_trans (m := 100000000) (show zs.length + 1 ≤ _ by omega) (by decide)
    have hrow : RepV μ6 (csD (xa ++ y)) (.slice (b7.map fun r => ⟨r, 0, none⟩) (([] : List Value) ++ vx ++ vy).length c7) := by
     have := Rows.sl hat6 ((hvx.append hvy).mono hle6) (Nat.le_trans (m := 100000000) (by simp; omega) (by decide))
     rw [← List.map_append] at this
     exact this
    refine num64 (by omega) (by omega) ⟨(k + 1, b8, c8, _, μ6), ⟨by dsimp only; omega, hle5.trans hle6, ?_⟩, by dsimp only; omega, ⟨⟨rfl, rfl, rfl, rfl, rfl, rfl, rfl, rfl, rfl, rfl, rfl, rfl, rfl, trivial⟩, ⟨rfl, trivial⟩, rfl, rfl⟩⟩
    dsimp only
    rw [List.take_add_one, hy, Option.toList_some, List.map_append (f := fun y => xa ++ y), ← List.append_assoc, List.map_append (f := csD)]
    exact (hrows2.mono hle6).append (Rows.one hrow rfl)
   ·obtain rfl : k = L.length := by omega
    rw [List.take_length, ← prodC_step hxa] at hrows2
    exact num64 (by omega) (by omega) ⟨(j + 1, b2, c2, zs, μ5), ⟨by dsimp only; omega, hle4.trans hle5, hrows2⟩, by dsimp only; omega, ⟨⟨rfl, rfl, rfl, rfl, rfl, rfl, rfl, rfl, rfl, trivial⟩, ⟨rfl, trivial⟩, rfl, rfl⟩⟩
  ·obtain rfl : j = acc.length := by omega
   rw [List.take_length] at hrows
   rw [Nat.min_self] at hyl hmul
   have hpl := prodC_len acc L
   have hzlen : ∀ c ∈ prodC acc L, c.length ≤ Gl.cnts (g.goals.take (i + 1)) := fun c hc => by
    have w_ := prodC_mem hc
    obtain ⟨u, hu, w, hw, rfl⟩ := w_
    have h1 := hlen u hu
    have h2 := hLl w hw
    rw [List.length_append]; omega
   refine iIn (fun h => nomatch h) (fun _ => ?_)
   refine ifd (fun hb => ?_) (fun hb => ?_)
   ·rw [if_neg (by omega)] at hJ
    exact rPl (by rw [hJ]; rfl)
   ·rw [if_pos (by omega)] at hJ
    refine num64 (by omega) (by omega) ⟨[1], fun μ5 hle5 hno5 hat5 => ⟨(i + 1, prodC acc L, b1.map (fun r => ⟨r, 0, none⟩), c1, μ5), ⟨by dsimp only; omega, ((hle.trans hle3).trans hle4).trans hle5, ?_, hJ, hzlen, by dsimp only; omega⟩, by dsimp only; omega, ⟨⟨?_, ?_, rfl, rfl, rfl, trivial⟩, trivial, rfl, rfl⟩⟩⟩
    ·have := Rows.sl hat5 (hrows.mono hle5) (Nat.le_trans (m := 100000000) (by omega) (by decide))
     rw [← hyl, ← hpl] at this
     exact this
    ·show some (SV.val (.slice _ _ _)) = some (SV.val (.slice _ _ _))
     rw [hpl, hyl]
    ·show some (SV.val (.bool _)) = some (SV.val (.bool _))
     rw [decide_eq_false hb]
end
end Go.Vx
namespace Go.Vx
open Go.Proofs Classical
section
variable {μ : Mem}
theorem l16Copy_spec {c : List Gl} {base : Option Addr} {cap : Nat} (hsl : Sl μ 4 base c.length (c.map Gl.d)) (hn : c.length ≤ 1000000) (hS : ∀ x ∈ c, x.Sh) :
  Spec Tryz.prog 143 [.slice base c.length cap] μ fun v μ' => RepV μ' (csD c) v := by
 refine Spec.mk Tryz.func143 (by kernel_rfl) ?_
 intro r6
 refine lIn (fun p : Nat × Option Nat × Nat × List Value × Mem => p.1 ≤ c.length ∧ μ.Le p.2.2.2.2 ∧ Rows p.2.2.2.2 4 ((c.take p.1).map Gl.d) p.2.2.2.1)
  (fun (i, b, k, ys, μ') => ⟨[(3, .row 0 b ys.length k), (7, .val (.slice base c.length cap)), (8, .val (.int .i64 c.length)), (9, .val (.int .i64 i))], [(0, some (.row b k 30 4 ys))], 1, μ', Mem.nil⟩) (fun p => c.length - p.1)
  (0, some r6, 0, [], μ) ⟨by simp, Mem.Le.refl _, .nil⟩ (fun (_, _, _, _, _) => ⟨rfl, rfl⟩) ⟨⟨rfl, rfl, rfl, rfl, trivial⟩, ⟨rfl, trivial⟩, rfl, rfl⟩ ?_
 rintro ⟨i, b, k, ys, μ'⟩ ⟨hi, hle, hrows⟩
 dsimp only at hi hle hrows
 have hlen := hrows.len
 simp only [List.length_map, List.length_take] at hlen
 refine ifd (fun h => ?_) (fun h => ?_)
 ·have w_ := aSo (l := c) (i := i) (by omega)
  obtain ⟨x, hx⟩ := w_
  have w_ := Gl.elem (hsl.mono hle) hx
  obtain ⟨ad, p, hel, hr⟩ := w_
  refine eIn hel ?_
  intro r5
  refine cPl (l13Copy_spec x hr (hS x (mAt hx))) fun v4 μ4 hle4 hR4 => ?_
  have w_ := Gl.invV hR4
  obtain ⟨q, rfl⟩ := w_
  intro r16
  refine gIn ?_ ?_ fun b' c' _ => ?_
  ·show (ys.length + 1) * 72 ≤ _; omega
  ·exact Nat.le_trans (m := 100000000) (show ys.length + 1 ≤ _ by omega) (by decide)
  refine num64 (by omega) (by omega) ⟨(i + 1, b', c', _, μ4), ⟨by dsimp only; omega, hle.trans hle4, ?_⟩, by dsimp only; omega, ⟨⟨rfl, rfl, rfl, rfl, trivial⟩, ⟨rfl, trivial⟩, rfl, rfl⟩⟩
  dsimp only
  rw [List.take_add_one, hx, Option.toList_some, List.map_append]
  exact (hrows.mono hle4).append (Rows.one hR4 (Gl.d_n _))
 ·obtain rfl : i = c.length := by omega
  rw [List.take_length] at hrows
  refine rFz [0] fun μ' hle' hno hrow => .inl ?_
  exact Rows.sl hrow (hrows.mono hle') (Nat.le_trans (m := 100000000) (by omega) (by decide))
mutual
theorem Gl.cl_Sh : ∀ (g : Gl) {L : List (List Gl)}, g.Sh → g.cl = some L → ∀ c ∈ L, ∀ x ∈ c, x.Sh
 | .mk k s ts gs, L, hS, h => by
  have hsub : ∀ x ∈ gs, x.Sh := hS.sub
  rw [Gl.cl] at h
  split at h
  ·cases h; simp
  split at h
  ·cases h; simp
  split at h
  ·exact Gl.clOr_Sh gs hsub (by simp) h
  split at h
  ·exact Gl.clAnd_Sh gs hsub (by simp) h
  ·cases h
   intro c hc x hx
   rw [List.mem_singleton.1 hc] at hx
   rw [List.mem_singleton.1 hx]; exact hS
theorem Gl.clOr_Sh : ∀ (gs : List Gl) {acc L : List (List Gl)}, (∀ x ∈ gs, x.Sh) → (∀ c ∈ acc, ∀ x ∈ c, x.Sh) → Gl.clOr gs acc = some L → ∀ c ∈ L, ∀ x ∈ c, x.Sh
 | [], acc, L, _, h1, h => by
  rw [Gl.clOr] at h; cases h; exact h1
 | g :: gs, acc, L, hS, h1, h => by
  rw [Gl.clOr] at h
  cases e : g.cl with
  | none => rw [e] at h; cases h
  | some l =>
   rw [e, Option.bind_some] at h
   have hb := Gl.cl_Sh g (hS g (by simp)) e
   split at h
   ·exact Gl.clOr_Sh gs (acc := acc ++ l) (fun x hx => hS x (by simp [hx])) (fun c hc => by
     rcases List.mem_append.1 hc with hc | hc
     ·exact h1 c hc
     ·exact hb c hc) h
   ·cases h
theorem Gl.clAnd_Sh : ∀ (gs : List Gl) {acc L : List (List Gl)}, (∀ x ∈ gs, x.Sh) → (∀ c ∈ acc, ∀ x ∈ c, x.Sh) → Gl.clAnd gs acc = some L → ∀ c ∈ L, ∀ x ∈ c, x.Sh
 | [], acc, L, _, h1, h => by
  rw [Gl.clAnd] at h; cases h; exact h1
 | g :: gs, acc, L, hS, h1, h => by
  rw [Gl.clAnd] at h
  cases e : g.cl with
  | none => rw [e] at h; cases h
  | some l =>
   rw [e, Option.bind_some] at h
   have hb := Gl.cl_Sh g (hS g (by simp)) e
   split at h
   ·exact Gl.clAnd_Sh gs (acc := prodC acc l) (fun x hx => hS x (by simp [hx])) (fun c hc => by
     have w_ := prodC_mem hc
     obtain ⟨u, hu, w, hw, rfl⟩ := w_
     intro x hx
     rcases List.mem_append.1 hx with hx | hx
     ·exact h1 u hu x hx
     ·exact hb w hw x hx) h
   ·cases h
end
theorem ClausesOf_spec {g : Gl} {v : Value} (hv : RepV μ g.d v) (hw : g.d.wd) (hok : g.Ok) : Spec Tryz.prog 83 [v] μ fun v μ' => optC (Cls μ') g.cl v := by
 have hv0 := hv
 have w_ := Gl.inv hv
 obtain ⟨p, rfl, -, -⟩ := w_
 refine Spec.mk Tryz.func83 (by kernel_rfl) ?_
 intro r1
 refine cGv (spec_GoalOk_spec g hv0 hw) ?_
 refine ifnd (fun h => absurd hok h) (fun _ => ?_)
 refine cPl (l16Clauses_spec g hv0 hok.1 hok.2) fun v1 μ1 hle1 hR => ?_
 obtain ⟨L, hL⟩ := hR
 obtain ⟨pv, rfl⟩ := hL.rep.inv
 have hcl := hL.cl
 refine ifd (fun h64 => ?_) (fun h64 => ?_)
 ·rw [if_neg (by omega)] at hcl
  exact rPl (by rw [hcl]; rfl)
 rw [if_pos (by omega)] at hcl
 rw [hcl]
 have hSh := Gl.cl_Sh g hok.1 hcl
 have hbd := Gl.cl_bnd g hcl
 have h80 := hok.2
 have hsl := (Cls.sl hL.rep).1
 intro r16
 refine lIn (fun p : Nat × Option Nat × Nat × List Value × Mem => p.1 ≤ L.length ∧ μ1.Le p.2.2.2.2 ∧ Rows p.2.2.2.2 1 ((L.take p.1).map csD) p.2.2.2.1)
  (fun (i, b, k, ys, μ') => ⟨[(5, .row 1 b ys.length k), (17, .val (.slice pv.1 L.length pv.2)), (18, .val (.int .i64 L.length)), (19, .val (.int .i64 i))], [(1, some (.row b k 28 1 ys))], 2, μ', Mem.nil⟩) (fun p => L.length - p.1)
  (0, some r16, 0, [], μ1) ⟨by simp, Mem.Le.refl _, .nil⟩ (fun (_, _, _, _, _) => ⟨rfl, rfl⟩) ⟨⟨rfl, rfl, rfl, rfl, trivial⟩, ⟨rfl, trivial⟩, rfl, rfl⟩ ?_
 rintro ⟨i, b, k, ys, μ'⟩ ⟨hi, hle, hrows⟩
 dsimp only at hi hle hrows
 have hlen := hrows.len
 simp only [List.length_map, List.length_take] at hlen
 refine ifd (fun h => ?_) (fun h => ?_)
 ·have w_ := aSo (l := L) (i := i) (by omega)
  obtain ⟨c, hc⟩ := w_
  have w_ := cls_elem (hsl.mono hle) hc
  obtain ⟨ad, pc, hel, hrc⟩ := w_
  have hcl2 := hbd.1 c (mAt hc)
  have hcs : Sl μ' 4 pc.1 c.length (c.map Gl.d) := by
   have w_ := Rep.sl (xs := c.map Gl.d) hrc
   obtain ⟨b', c', e1, hs⟩ := w_
   have w_ := Value.slice.inj e1
   obtain ⟨rfl, _, _⟩ := w_
   simpa using hs
  refine eIn hel ?_
  refine cPl (l16Copy_spec hcs (by omega) (hSh c (mAt hc))) fun v4 μ4 hle4 hR4 => ?_
  have w_ := csD_inv hR4
  obtain ⟨q, rfl⟩ := w_
  intro r26
  refine gIn ?_ ?_ fun b' c' _ => ?_
  ·show (ys.length + 1) * 24 ≤ _; omega
  ·exact Nat.le_trans (m := 100000000) (show ys.length + 1 ≤ _ by omega) (by decide)
  refine num64 (by omega) (by omega) ⟨(i + 1, b', c', _, μ4), ⟨by dsimp only; omega, hle.trans hle4, ?_⟩, by dsimp only; omega, ⟨⟨rfl, rfl, rfl, rfl, trivial⟩, ⟨rfl, trivial⟩, rfl, rfl⟩⟩
  dsimp only
  rw [List.take_add_one, hc, Option.toList_some, List.map_append]
  exact (hrows.mono hle4).append (Rows.one hR4 rfl)
 ·obtain rfl : i = L.length := by omega
  rw [List.take_length] at hrows
  refine rFz [1] fun μ' hle' hno hrow => .inl ⟨_, rfl, ?_⟩
  exact Rows.sl hrow (hrows.mono hle') (Nat.le_trans (m := 100000000) (by omega) (by decide))
end
end Go.Vx
namespace Go.Vx
open Go.Proofs Classical
section
variable {μ : Mem}
theorem flat_len2 {es : Nat} : ∀ {ys : List Value}, (∀ x ∈ ys, (vcells x).length = es) → (ys.flatMap vcells).length = ys.length * es
 | [], _ => by simp
 | y :: ys, h => by
  rw [List.flatMap_cons, List.length_append, flat_len2 fun x hx => h x (by simp [hx]), h y (by simp), List.length_cons, Nat.succ_mul]; omega
theorem RowAt.cut {b : Option Nat} {k es : Nat} {ys : List Value} (h : RowAt μ b k es ys) (a : Nat) : RowAt μ b k es (ys.take a) := by
 cases b with
 | none =>
  have h : ys = [] := h
  subst h
  exact List.take_nil
 | some r =>
  obtain ⟨h1, h2, arr, ty, h3, h4, h5⟩ := h
  have hl : (ys.take a).length ≤ ys.length := by rw [List.length_take]; omega
  refine ⟨by omega, fun x hx => h2 x (List.mem_of_mem_take hx), arr, ty, h3, h4, ?_⟩
  have e : ((ys.take a).flatMap vcells).length = (ys.take a).length * es := flat_len2 fun x hx => (h2 x (List.mem_of_mem_take hx)).1
  have e1 : arr.toList.take ((ys.take a).length * es) = (arr.toList.take (ys.length * es)).take ((ys.take a).length * es) := by
   rw [List.take_take]
   congr 1
   have := Nat.mul_le_mul_right es hl
   omega
  rw [e1, h5]
  conv => lhs; rw [← List.take_append_drop a ys]
  rw [List.flatMap_append, List.take_left' (by rw [e]; simp)]
end
end Go.Vx
namespace Go.Vx
open Go.Proofs Classical
theorem Gl.all_self (g : Gl) : g ∈ g.all := by rw [Gl.all_eq]; simp
theorem Gl.all_sub {g x y : Gl} (hx : x ∈ g.goals) (hy : y ∈ x.all) : y ∈ g.all := by
 rw [Gl.all_eq]; exact List.mem_cons_of_mem _ (List.mem_flatMap.2 ⟨x, hx, hy⟩)
theorem Gl.all_wd : ∀ g : Gl, g.d.wd → ∀ x ∈ g.all, x.d.wd :=
 Gl.ind fun g ih h x hx => by
  rw [Gl.all_eq] at hx
  rcases List.mem_cons.1 hx with rfl | hx
  ·exact h
  ·have w_ := List.mem_flatMap.1 hx
   obtain ⟨y, hy, hx⟩ := w_
   exact ih y hy ((Gl.wd_at h).2.2.2 y hy) x hx
def Gl.Single (g : Gl) : Prop := g.Ok ∧ g.kind ≠ 7 ∧ g.kind ≠ 8
def CgOk (l : List (List Gl)) : Prop := l.length ≤ 8 ∧ ∀ c ∈ l, c.length ≤ 8 ∧ ∀ g ∈ c, g.Single
def cgA (c : List Gl) : Gl := .mk 7 ⟨#[]⟩ [] c
def cgG (l : List (List Gl)) : Gl := .mk 8 ⟨#[]⟩ [] (l.map cgA)
noncomputable def cgO (l : List (List Gl)) : Option Gl := if CgOk l then some (cgG l) else none
def callIdx : List Gl → Nat → Option Nat
 | [], _ => none
 | g :: r, 0 => if g.kind = 9 then some 0 else (callIdx r 0).map (· + 1)
 | g :: r, k + 1 => if g.kind = 9 then (callIdx r k).map (· + 1) else (callIdx r (k + 1)).map (· + 1)
theorem callIdx_at : ∀ {l : List Gl} {k a : Nat}, callIdx l k = some a → ∃ g, l[a]? = some g ∧ g.kind = 9
 | [], _, _, h => by cases h
 | g :: r, 0, a, h => by
  rw [callIdx] at h
  split at h
  ·rename_i h9
   cases h; exact ⟨g, rfl, h9⟩
  ·have w_ := Option.map_eq_some_iff.1 h
   obtain ⟨b, hb, rfl⟩ := w_
   exact callIdx_at (l := r) hb
 | g :: r, k + 1, a, h => by
  rw [callIdx] at h
  split at h
  ·have w_ := Option.map_eq_some_iff.1 h
   obtain ⟨b, hb, rfl⟩ := w_
   exact callIdx_at (l := r) hb
  ·have w_ := Option.map_eq_some_iff.1 h
   obtain ⟨b, hb, rfl⟩ := w_
   exact callIdx_at (l := r) hb
def placeI : Option Nat → Int
 | some a => a
 | none => -1
def shF (n : Int) (v : Int) : Option T := some (.var (v + n))
def eqG (n : Int) (i : Nat) (t : Tm) : Gl := .mk 2 ⟨#[]⟩ [(T.var (n + i)).tm, t] []
def eqsG (n : Int) (ts : List Tm) : List Gl := ts.mapIdx (eqG n)
theorem eqsG_take {n : Int} {ts : List Tm} {i : Nat} {t : Tm} (h : ts[i]? = some t) : (eqsG n ts).take (i + 1) = (eqsG n ts).take i ++ [eqG n i t] := by
 rw [List.take_add_one, eqsG, List.getElem?_mapIdx, h]; rfl
theorem eqsG_len (n : Int) (ts : List Tm) : (eqsG n ts).length = ts.length := by rw [eqsG, List.length_mapIdx]
noncomputable def unfC (l : List Gl) (a : Nat) (g : Gl) (n : Int) (d : List Gl) : List Gl := l.take a ++ eqsG n g.terms ++ d.map (Gl.put (shF n)) ++ l.drop (a + 1)
noncomputable def unfL (cls : List (List Gl)) (c : Nat) (l : List Gl) (a : Nat) (g : Gl) (n : Int) (ds : List (List Gl)) : List (List Gl) := cls.take c ++ ds.map (unfC l a g n) ++ cls.drop (c + 1)
structure UnfD where
 k : Nat
 r : Rl
 cls : List (List Gl)
 c : Nat
 l : List Gl
 a : Nat
 g : Gl
 q : Rl
structure UnfAt (p : Pg) (nm : ByteArray) (clause call : Int) (x : UnfD) : Prop where
 find : findR p nm = x.k
 rel : p.rels[x.k]? = some x.r
 cl : x.r.body.cl = some x.cls
 cc : clause = x.c
 cls : x.cls[x.c]? = some x.l
 call0 : 0 ≤ call
 pos : callIdx x.l call.toNat = some x.a
 goal : x.l[x.a]? = some x.g
 called : ∃ j : Nat, relAt p x.g.name = j ∧ p.rels[j]? = some x.q
theorem UnfAt.uniq {p : Pg} {nm : ByteArray} {clause call : Int} {x y : UnfD} (h : UnfAt p nm clause call x) (h' : UnfAt p nm clause call y) : x = y := by
 obtain ⟨k, r, cls, c, l, a, g, q⟩ := x
 obtain ⟨k', r', cls', c', l', a', g', q'⟩ := y
 obtain ⟨h1, h2, h3, h4, h5, h6, h7, h8, j, h9, h10⟩ := h
 obtain ⟨i1, i2, i3, i4, i5, i6, i7, i8, j', i9, i10⟩ := h'
 dsimp only at *
 obtain rfl : k = k' := by omega
 rw [h2] at i2; cases i2
 rw [h3] at i3; cases i3
 obtain rfl : c = c' := by omega
 rw [h5] at i5; cases i5
 rw [h7] at i7; cases i7
 rw [h8] at i8; cases i8
 obtain rfl : j = j' := by omega
 rw [h10] at i10; cases i10
 rfl
noncomputable def UnfD.ls (x : UnfD) (ds : List (List Gl)) : List (List Gl) := unfL x.cls x.c x.l x.a x.g (x.r.arity + x.r.locals) ds
noncomputable def UnfD.pg (x : UnfD) (p : Pg) (ds : List (List Gl)) : Pg := ⟨p.rels.set x.k ⟨x.r.name, x.r.arity, x.r.locals + x.q.arity + x.q.locals, cgG (x.ls ds)⟩⟩
def UnfOk (p : Pg) (x : UnfD) (ds : List (List Gl)) : Prop := x.q.body.cl = some ds ∧ CgOk (x.ls ds) ∧ (x.pg p ds).Ok
noncomputable def unfO (p : Pg) (nm : ByteArray) (clause call : Int) : Option (Pg × Nat) :=
 if h : ∃ z : UnfD × List (List Gl), UnfAt p nm clause call z.1 ∧ UnfOk p z.1 z.2 then some (h.choose.1.pg p h.choose.2, h.choose.2.length) else none
theorem unfO_some {p : Pg} {nm : ByteArray} {clause call : Int} {x : UnfD} {ds : List (List Gl)} (h : UnfAt p nm clause call x) (h2 : UnfOk p x ds) : unfO p nm clause call = some (x.pg p ds, ds.length) := by
 have hx : ∃ z : UnfD × List (List Gl), UnfAt p nm clause call z.1 ∧ UnfOk p z.1 z.2 := ⟨(x, ds), h, h2⟩
 have h3 := hx.choose_spec
 have e : hx.choose = (x, ds) := by
  have e1 := h3.1.uniq h
  have e2 := h3.2.1
  rw [e1, h2.1] at e2
  exact Prod.ext e1 (Option.some.inj e2).symm
 rw [unfO, dif_pos hx, e]
theorem unfO_none {p : Pg} {nm : ByteArray} {clause call : Int} (h : ∀ x, ¬ UnfAt p nm clause call x) : unfO p nm clause call = none := by
 rw [unfO, dif_neg fun k => by obtain ⟨⟨x, _⟩, hx, _⟩ := k; exact h x hx]
theorem unfO_bad {p : Pg} {nm : ByteArray} {clause call : Int} {x : UnfD} (h : UnfAt p nm clause call x) (h2 : ∀ ds, ¬ UnfOk p x ds) : unfO p nm clause call = none := by
 rw [unfO, dif_neg fun k => by obtain ⟨⟨y, ds⟩, hy, hd⟩ := k; exact h2 ds (h.uniq hy ▸ hd)]
end Go.Vx
namespace Go.Vx
open Go.Proofs Classical
section
variable {μ : Mem}
theorem l16Single_spec {g : Gl} {v : Value} (hv : RepV μ g.d v) (hw : g.d.wd) : Gives Tryz.prog 145 [v] μ (.bool (decide g.Single)) := by
 have w_ := Gl.invV hv
 obtain ⟨p, rfl⟩ := w_
 refine Spec.mk Tryz.func145 (by kernel_rfl) ?_
 intro r1
 refine cGv (spec_GoalOk_spec g hv hw) ?_
 refine ifd (fun h1 => ?_) (fun h1 => rGv (isF fun h => h1 h.1) rfl)
 refine ifnd (fun h2 => ?_) (fun h2 => rGv (isF fun h => h.2.1 h2) rfl)
 refine rGv ?_ rfl
 show Value.bool _ = Value.bool _
 congr 1
 by_cases e : g.kind = 8
 ·rw [decide_eq_true e, decide_eq_false fun k : g.Single => k.2.2 e]; rfl
 ·rw [decide_eq_false e, decide_eq_true (show g.Single from ⟨h1, h2, e⟩)]; rfl
theorem l13Make_spec {k : Int} {a b : Option Addr × Nat × Nat} : Gives Tryz.prog 84 [.int .i64 k, .slice a.1 a.2.1 a.2.2, .slice b.1 b.2.1 b.2.2] μ (.agg #[.int .i64 k, .string ⟨#[]⟩, .slice a.1 a.2.1 a.2.2, .slice b.1 b.2.1 b.2.2]) := by
 refine Spec.mk Tryz.func84 (by kernel_rfl) ?_
 intro r6
 exact rGv rfl rfl
theorem cgA_rep {c : List Gl} {v : Value} (h : RepV μ (csD c) v) : RepV μ (cgA c).d (.agg #[.int .i64 7, .string ⟨#[]⟩, .slice none 0 0, v]) := by
 rw [Gl.d_eq]
 have hnil : RepV μ (.sl 4 (([] : List Tm).map Tm.d)) (.slice none 0 0) := ⟨none, 0, rfl, ⟨Nat.zero_le _, Nat.zero_le _⟩, (fun _ h => nomatch h), .inl rfl⟩
 exact ⟨_, rfl, RepS.int (RepS.str (RepS.cons1 hnil (RepS.last h)))⟩
set_option maxHeartbeats 1000000 in
theorem spec_ClauseGoal_spec {l : List (List Gl)} {base : Option Addr} {cap : Nat} (hsl : Sl μ 1 base l.length (l.map csD)) (hw : ∀ c ∈ l, ∀ g ∈ c, g.d.wd) (hb : l.length ≤ 100000) (hb2 : ∀ c ∈ l, c.length ≤ 100000) :
  Spec Tryz.prog 86 [.slice base l.length cap] μ fun v μ' => optG (fun y tv => RepV μ' y.d tv) (cgO l) v := by
 refine Spec.mk Tryz.func86 (by kernel_rfl) ?_
 intro r2 r4
 refine loop_nil (fun z : Nat × Option Nat × Nat × List Value × Mem => z.1 ≤ l.length ∧ μ.Le z.2.2.2.2 ∧ Rows z.2.2.2.2 4 (((l.take z.1).map cgA).map Gl.d) z.2.2.2.1 ∧ (∀ c ∈ l.take z.1, c.length ≤ 8 ∧ ∀ g ∈ c, g.Single) ∧ (z.1 = 0 ∨ l.length ≤ 8))
  (fun (i, b, c, us, μ') => ⟨[(0, .val (.slice base l.length cap)), (2, .loc 0 r2 0), (4, .loc 1 r4 0), (10, .val (.slice base l.length cap)), (11, .val (.int .i64 l.length)), (12, .val (.int .i64 i))],
   [(0, some (.cells r2 [.val (.int .i64 0), .val (.string ⟨#[]⟩), .val (.slice none 0 0), .val (.slice none 0 0)] 30)), (1, some (.cells r4 [.val (.int .i64 8), .val (.string ⟨#[]⟩), .val (.slice none 0 0), .row 2 b us.length c] 30)), (2, some (.row b c 30 4 us))], 3, μ', Mem.nil⟩) (fun z => l.length - z.1)
  (0, none, 0, [], μ) ⟨Nat.zero_le _, Mem.Le.refl _, .nil, by simp, .inl rfl⟩ (fun (_, _, _, _, _) => ⟨rfl, rfl⟩) ⟨⟨⟨_, rfl, .inl rfl⟩, ⟨_, rfl, .inl rfl⟩, ⟨_, rfl, .inl rfl⟩, ⟨_, rfl, .inl rfl⟩, ⟨_, rfl, .inl rfl⟩, ⟨_, rfl, .inl rfl⟩, trivial⟩, ⟨.inl rfl, .inr (.inr ⟨_, _, _, _, rfl, rfl, .inl rfl, .inl rfl, .inl rfl, .inr ⟨2, rfl, rfl, Nat.le_refl _⟩, trivial⟩), .inr (.inl ⟨_, _, rfl, Nat.le_refl _⟩), trivial⟩, rfl, rfl⟩ ?_
 rintro ⟨i, b, c, us, μ'⟩ ⟨hi, hle, hrows, hall, h8⟩
 dsimp only at hi hle hrows hall h8
 have hul := hrows.len
 simp only [List.length_map, List.length_take] at hul
 refine ifd (fun hlt => ?_) (fun hlt => ?_)
 ·have w_ := aSo (l := l) (i := i) (by omega)
  obtain ⟨x, hx⟩ := w_
  have hxm := mAt hx
  have w_ := cls_elem (hsl.mono hle) hx
  obtain ⟨ad, px, hel, hrx⟩ := w_
  have hxl := hb2 x hxm
  have hxs : Sl μ' 4 px.1 x.length (x.map Gl.d) := by
   have w_ := Rep.sl (xs := x.map Gl.d) hrx
   obtain ⟨b', c', e1, hs⟩ := w_
   have w_ := Value.slice.inj e1
   obtain ⟨rfl, _, _⟩ := w_
   simpa using hs
  refine eIn hel ?_
  refine lIn (fun j : Nat => j ≤ x.length ∧ ∀ g ∈ x.take j, g.Single)
   (fun j => ⟨[(0, .val (.slice base l.length cap)), (2, .loc 0 r2 0), (4, .loc 1 r4 0), (6, .val (.slice px.1 x.length px.2)), (10, .val (.slice base l.length cap)), (11, .val (.int .i64 l.length)), (12, .val (.int .i64 i)), (16, .val (.slice px.1 x.length px.2)), (17, .val (.int .i64 x.length)), (18, .val (.int .i64 j))],
    [(0, some (.cells r2 [.val (.int .i64 0), .val (.string ⟨#[]⟩), .val (.slice none 0 0), .val (.slice none 0 0)] 30)), (1, some (.cells r4 [.val (.int .i64 8), .val (.string ⟨#[]⟩), .val (.slice none 0 0), .row 2 b us.length c] 30)), (2, some (.row b c 30 4 us))], 3, μ', Mem.nil⟩) (fun j => x.length - j)
   0 ⟨Nat.zero_le _, by simp⟩ (fun _ => ⟨rfl, rfl⟩) ⟨⟨rfl, rfl, rfl, rfl, rfl, rfl, rfl, rfl, rfl, rfl, trivial⟩, ⟨rfl, rfl, rfl, trivial⟩, rfl, rfl⟩ ?_
  rintro j ⟨hj, hsing⟩
  refine ifd (fun hlt2 => ?_) (fun hlt2 => ?_)
  ·have w_ := aSo (l := x) (i := j) (by omega)
   obtain ⟨y, hy⟩ := w_
   have w_ := Gl.elem hxs hy
   obtain ⟨ad2, p2, hel2, hr2⟩ := w_
   refine eIn hel2 ?_
   intro r8
   refine cGv (l16Single_spec hr2 (hw x hxm y (mAt hy))) ?_
   refine ifnd (fun hn => ?_) (fun hs => ?_)
   ·refine rPl ?_
    rw [cgO, if_neg fun k => hn ((k.2 x hxm).2 y (mAt hy))]
    rfl
   refine num64 (by omega) (by omega) ⟨j + 1, ⟨by omega, fun g hg => ?_⟩, by omega, ⟨⟨rfl, rfl, rfl, rfl, rfl, rfl, rfl, rfl, rfl, rfl, trivial⟩, ⟨rfl, rfl, rfl, trivial⟩, rfl, rfl⟩⟩
   rw [List.take_add_one, hy, Option.toList_some] at hg
   rcases List.mem_append.1 hg with hg | hg
   ·exact hsing g hg
   ·rw [List.mem_singleton.1 hg]; exact hs
  ·obtain rfl : j = x.length := by omega
   rw [List.take_length] at hsing
   refine ifd (fun h88 => ?_) (fun h88 => ?_)
   ·refine rPl ?_
    rw [cgO, if_neg fun k => by have := (k.2 x hxm).1; omega]
    rfl
   refine ifd (fun h89 => ?_) (fun h89 => ?_)
   ·refine rPl ?_
    rw [cgO, if_neg fun k => by have := k.1; omega]
    rfl
   refine cPl (l16Copy_spec hxs (by omega) (fun g hg => (hsing g hg).1.1)) fun v3 μ3 hle3 hR3 => ?_
   have w_ := csD_inv hR3
   obtain ⟨q3, rfl⟩ := w_
   refine cGv (l13Make_spec (a := (none, 0, 0)) (b := (q3.1, x.length, q3.2))) ?_
   intro r41
   refine gIn ?_ ?_ fun b' c' _ => ?_
   ·show (us.length + 1) * 72 ≤ _; omega
   ·exact Nat.le_trans (m := 100000000) (show us.length + 1 ≤ _ by omega) (by decide)
   refine num64 (by omega) (by omega) ⟨(i + 1, b', c', _, μ3), ⟨by dsimp only; omega, hle.trans hle3, ?_, ?_, by dsimp only; omega⟩, by dsimp only; omega, ⟨⟨rfl, rfl, rfl, rfl, rfl, rfl, trivial⟩, ⟨rfl, rfl, rfl, trivial⟩, rfl, rfl⟩⟩
   ·dsimp only
    rw [List.take_add_one, hx, Option.toList_some]
    simp only [List.map_append, List.map_cons, List.map_nil]
    exact (hrows.mono hle3).append (Rows.one (cgA_rep hR3) (Gl.d_n _))
   ·dsimp only
    intro c hc
    rw [List.take_add_one, hx, Option.toList_some] at hc
    rcases List.mem_append.1 hc with hc | hc
    ·exact hall c hc
    ·rw [List.mem_singleton.1 hc]; exact ⟨by omega, hsing⟩
 ·obtain rfl : i = l.length := by omega
  rw [List.take_length] at hrows hall
  refine rFz [2] fun μ2 hle2 hno hrow => .inl ?_
  rw [cgO, if_pos ⟨by omega, hall⟩]
  refine ⟨_, rfl, ?_⟩
  show RepV _ (cgG l).d _
  rw [cgG, Gl.d_eq]
  have hnil : RepV μ2 (.sl 4 (([] : List Tm).map Tm.d)) (.slice none 0 0) := ⟨none, 0, rfl, ⟨Nat.zero_le _, Nat.zero_le _⟩, (fun _ h => nomatch h), .inl rfl⟩
  exact ⟨_, rfl, RepS.int (RepS.str (RepS.cons1 hnil (RepS.last (Rows.sl hrow (hrows.mono hle2) (Nat.le_trans (m := 100000000) (by omega) (by decide))))))⟩
set_option maxHeartbeats 1000000 in
theorem impl_ClauseGoal_spec {l : List (List Gl)} {base : Option Addr} {cap : Nat} (hsl : Sl μ 1 base l.length (l.map csD)) (hb : l.length ≤ 100000) (hb2 : ∀ c ∈ l, c.length ≤ 100000) :
  Spec Tryz.prog 150 [.slice base l.length cap] μ fun v μ' => optG (fun y tv => Fresh μ μ' y.d tv) (cgO l) v := by
 refine Spec.mk Tryz.func150 (by kernel_rfl) ?_
 intro r2
 refine ifd (fun h8 => ?_) (fun h8 => ?_)
 ·refine rPl ?_
  rw [cgO, if_neg fun k => by have := k.1; omega]
  rfl
 intro r4
 refine loop_frzN (fun z : Nat × Option Nat × Nat × List Value × Mem => z.1 ≤ l.length ∧ μ.Le z.2.2.2.2 ∧ Grown 4 μ z.2.2.2.2 (((l.take z.1).map cgA).map Gl.d) z.2.2.2.1 ∧ (∀ c ∈ l.take z.1, c.length ≤ 8 ∧ ∀ g ∈ c, g.Single))
  (fun (i, b, c, us, μ') => ⟨[(2, .loc 0 r2 0), (4, .loc 1 r4 0), (15, .val (.slice base l.length cap)), (16, .val (.int .i64 l.length)), (17, .val (.int .i64 i))],
   [(0, some (.cells r2 [.val (.int .i64 0), .val (.string ⟨#[]⟩), .val (.slice none 0 0), .val (.slice none 0 0)] 30)), (1, some (.cells r4 [.val (.int .i64 8), .val (.string ⟨#[]⟩), .val (.slice none 0 0), .row 2 b us.length c] 30)), (2, some (.row b c 30 4 us))], 3, μ', Mem.nil⟩) (fun z => l.length - z.1) [] (fun (_, _, _, _, _) => ⟨rfl, rfl⟩)
  ⟨(0, none, 0, [], μ), ⟨Nat.zero_le _, Mem.Le.refl _, Grown.nil _ _ _, by simp⟩, ⟨⟨⟨_, rfl, .inl rfl⟩, ⟨_, rfl, .inl rfl⟩, ⟨_, rfl, .inl rfl⟩, ⟨_, rfl, .inl rfl⟩, ⟨_, rfl, .inl rfl⟩, trivial⟩, ⟨.inl rfl, .inr (.inr ⟨_, _, _, _, rfl, rfl, .inl rfl, .inl rfl, .inl rfl, .inr ⟨2, rfl, rfl, Nat.le_refl _⟩, trivial⟩), .inr (.inl ⟨_, _, rfl, Nat.le_refl _⟩), trivial⟩, rfl, rfl⟩⟩ ?_
 rintro ⟨i, b, c, us, μ'⟩ ⟨hi, hle, hrows, hall⟩
 dsimp only at hi hle hrows hall
 have hul := hrows.len
 simp only [List.length_map, List.length_take] at hul
 refine ifd (fun hlt => ?_) (fun hlt => ?_)
 ·have w_ := aSo (l := l) (i := i) (by omega)
  obtain ⟨x, hx⟩ := w_
  have hxm := mAt hx
  have w_ := cls_elem (hsl.mono hle) hx
  obtain ⟨ad, px, hel, hrx⟩ := w_
  have hxl := hb2 x hxm
  have hxs : Sl μ' 4 px.1 x.length (x.map Gl.d) := by
   have w_ := Rep.sl (xs := x.map Gl.d) hrx
   obtain ⟨b', c', e1, hs⟩ := w_
   have w_ := Value.slice.inj e1
   obtain ⟨rfl, _, _⟩ := w_
   simpa using hs
  refine eIn hel ?_
  refine ifd (fun h88 => ?_) (fun h88 => ?_)
  ·refine rPl ?_
   rw [cgO, if_neg fun k => by have := (k.2 x hxm).1; omega]
   rfl
  intro r7
  refine loop_nil (fun z : Nat × Option Nat × Nat × List Value × Mem => z.1 ≤ x.length ∧ μ'.Le z.2.2.2.2 ∧ Grown 4 μ' z.2.2.2.2 ((x.take z.1).map Gl.d) z.2.2.2.1 ∧ ∀ g ∈ x.take z.1, g.Single)
   (fun (j, b2, c2, ys, μ2) => ⟨[(2, .loc 0 r2 0), (4, .loc 1 r4 0), (7, .loc 3 r7 0), (15, .val (.slice base l.length cap)), (16, .val (.int .i64 l.length)), (17, .val (.int .i64 i)), (26, .val (.slice px.1 x.length px.2)), (27, .val (.int .i64 x.length)), (28, .val (.int .i64 j))],
    [(0, some (.cells r2 [.val (.int .i64 0), .val (.string ⟨#[]⟩), .val (.slice none 0 0), .val (.slice none 0 0)] 30)), (1, some (.cells r4 [.val (.int .i64 8), .val (.string ⟨#[]⟩), .val (.slice none 0 0), .row 2 b us.length c] 30)), (2, some (.row b c 30 4 us)), (3, some (.cells r7 [.val (.int .i64 7), .val (.string ⟨#[]⟩), .val (.slice none 0 0), .row 4 b2 ys.length c2] 30)), (4, some (.row b2 c2 30 4 ys))], 5, μ2, Mem.nil⟩) (fun z => x.length - z.1)
   (0, none, 0, [], μ') ⟨Nat.zero_le _, Mem.Le.refl _, Grown.nil _ _ _, by simp⟩ (fun (_, _, _, _, _) => ⟨rfl, rfl⟩) ⟨⟨⟨_, rfl, .inl rfl⟩, ⟨_, rfl, .inl rfl⟩, ⟨_, rfl, .inl rfl⟩, ⟨_, rfl, .inl rfl⟩, ⟨_, rfl, .inl rfl⟩, ⟨_, rfl, .inl rfl⟩, ⟨_, rfl, .inl rfl⟩, ⟨_, rfl, .inl rfl⟩, ⟨_, rfl, .inl rfl⟩, trivial⟩, ⟨.inl rfl, .inl rfl, .inl rfl, .inr (.inr ⟨_, _, _, _, rfl, rfl, .inl rfl, .inl rfl, .inl rfl, .inr ⟨4, rfl, rfl, Nat.le_refl _⟩, trivial⟩), .inr (.inl ⟨_, _, rfl, Nat.le_refl _⟩), trivial⟩, rfl, rfl⟩ ?_
  rintro ⟨j, b2, c2, ys, μ2⟩ ⟨hj, hle2, hrows2, hsing⟩
  dsimp only at hj hle2 hrows2 hsing
  have hyl := hrows2.len
  simp only [List.length_map, List.length_take] at hyl
  refine ifd (fun hlt2 => ?_) (fun hlt2 => ?_)
  ·have w_ := aSo (l := x) (i := j) (by omega)
   obtain ⟨y, hy⟩ := w_
   have w_ := Gl.elem (hxs.mono hle2) hy
   obtain ⟨ad2, p2, hel2, hr2⟩ := w_
   refine eIn hel2 ?_
   intro r9
   refine cGv (impl_GoalOk_spec y hr2) ?_
   refine ifnd (fun hn => ?_) (fun hok => ?_)
   ·refine rPl ?_
    rw [cgO, if_neg fun k => hn ((k.2 x hxm).2 y (mAt hy)).1]
    rfl
   refine ifd (fun h7 => ?_) (fun h7 => ?_)
   ·refine rPl ?_
    rw [cgO, if_neg fun k => ((k.2 x hxm).2 y (mAt hy)).2.1 h7]
    rfl
   refine ifd (fun h9 => ?_) (fun h9 => ?_)
   ·refine rPl ?_
    rw [cgO, if_neg fun k => ((k.2 x hxm).2 y (mAt hy)).2.2 h9]
    rfl
   refine cPl (copyGoal_spec y hr2 hok.1) fun v3 μ3 hle3 hR3 => ?_
   have w_ := Gl.invV hR3.rep
   obtain ⟨q3, rfl⟩ := w_
   intro r41
   refine gIn ?_ ?_ fun b' c' _ => ?_
   ·show (ys.length + 1) * 72 ≤ _; omega
   ·exact Nat.le_trans (m := 100000000) (show ys.length + 1 ≤ _ by omega) (by decide)
   refine num64 (by omega) (by omega) ⟨(j + 1, b', c', _, μ3), ⟨by dsimp only; omega, hle2.trans hle3, ?_, ?_⟩, by dsimp only; omega, ⟨⟨rfl, rfl, rfl, rfl, rfl, rfl, rfl, rfl, rfl, trivial⟩, ⟨rfl, rfl, rfl, rfl, rfl, trivial⟩, rfl, rfl⟩⟩
   ·dsimp only
    rw [List.take_add_one, hy, Option.toList_some]
    simp only [List.map_append, List.map_cons, List.map_nil]
    exact hrows2.snoc hle2 hR3 hle3 (Gl.d_n _)
   ·dsimp only
    intro g hg
    rw [List.take_add_one, hy, Option.toList_some] at hg
    rcases List.mem_append.1 hg with hg | hg
    ·exact hsing g hg
    ·rw [List.mem_singleton.1 hg]; exact ⟨hok, h7, h9⟩
  ·obtain rfl : j = x.length := by omega
   rw [List.take_length] at hsing hrows2
   intro r57
   refine gIn ?_ ?_ fun b' c' _ => ?_
   ·show (us.length + 1) * 72 ≤ _; omega
   ·exact Nat.le_trans (m := 100000000) (show us.length + 1 ≤ _ by omega) (by decide)
   have hnil : Fresh μ' μ' (.sl 4 (([] : List Tm).map Tm.d)) (.slice none 0 0) := ⟨Mem.nil, Own.nilSl 4, (fun _ _ h => nomatch h), fun _ h => absurd rfl h⟩
   refine num64 (by omega) (by omega) ⟨[4], fun μ6 hle6 hno6 hat6 => ?_⟩
   have hfr := hrows2.fresh hle2 hle6 hno6 hat6 (Nat.le_trans (m := 1000000) (by omega) (by decide))
   have hA : Fresh μ' μ6 (cgA x).d (.agg #[.int .i64 7, .string ⟨#[]⟩, .slice none 0 0, .slice (b2.map fun r => ⟨r, 0, none⟩) ys.length c2]) := by
    rw [cgA, Gl.d_eq]
    exact FreshS.st (FreshS.int (FreshS.str (FreshS.cons hnil (Mem.Le.refl _) (hle2.trans hle6) (FreshS.cons hfr (hle2.trans hle6) (Mem.Le.refl _) FreshS.nil))))
   refine ⟨(i + 1, b', c', _, μ6), ⟨by dsimp only; omega, hle.trans (hle2.trans hle6), ?_, ?_⟩, by dsimp only; omega, ⟨⟨rfl, rfl, rfl, rfl, rfl, trivial⟩, ⟨rfl, rfl, rfl, trivial⟩, rfl, rfl⟩⟩
   ·dsimp only
    rw [List.take_add_one, hx, Option.toList_some]
    simp only [List.map_append, List.map_cons, List.map_nil]
    exact hrows.snoc hle hA (hle2.trans hle6) (Gl.d_n _)
   ·dsimp only
    intro c hc
    rw [List.take_add_one, hx, Option.toList_some] at hc
    rcases List.mem_append.1 hc with hc | hc
    ·exact hall c hc
    ·rw [List.mem_singleton.1 hc]; exact ⟨by omega, hsing⟩
 ·obtain rfl : i = l.length := by omega
  rw [List.take_length] at hrows hall
  refine rFz [2] fun μ2 hle2 hno hrow => .inl ?_
  rw [cgO, if_pos ⟨by omega, hall⟩]
  refine ⟨_, rfl, ?_⟩
  show Fresh μ _ (cgG l).d _
  rw [cgG, Gl.d_eq]
  have k := hrows.fresh hle hle2 hno hrow (Nat.le_trans (m := 1000000) (by omega) (by decide))
  have hnil : Fresh μ μ (.sl 4 (([] : List Tm).map Tm.d)) (.slice none 0 0) := ⟨Mem.nil, Own.nilSl 4, (fun _ _ h => nomatch h), fun _ h => absurd rfl h⟩
  exact FreshS.st (FreshS.int (FreshS.str (FreshS.cons hnil (Mem.Le.refl _) (hle.trans hle2) (FreshS.cons k (hle.trans hle2) (Mem.Le.refl _) FreshS.nil))))
end
end Go.Vx
namespace Go.Vx
open Go.Proofs Classical
theorem Gl.withO_all {F : T → Option T} {f : Int → Option T} (h : ∀ x, F x = some (x.subst f)) : ∀ g : Gl, g.withO F = some (g.put f) :=
 Gl.ind fun g ih => by
  rw [Gl.withO_eq, mapM_all (h := T.subst f) fun x _ => h x]
  dsimp only
  rw [mapM_all (h := Gl.put f) ih]
  dsimp only
  cases g with
  | mk k s ts gs =>
  rw [Gl.put, Gl.puts_map]
  show some (Gl.mk k s _ _) = some (Gl.mk k s _ _)
  rw [List.map_map, List.map_map]; rfl
section
variable {μ : Mem}
theorem placeOfCall_spec {c : List Gl} {base : Option Addr} {cap k : Nat} (hsl : Sl μ 4 base c.length (c.map Gl.d)) (hb : c.length ≤ 1000000) (hk : (k : Int) ≤ 9223372036854775807) :
  Spec Tryz.prog 147 [.slice base c.length cap, .int .i64 k] μ fun r μ' => r = .int .i64 (placeI (callIdx c k)) ∧ μ' = μ := by
 refine Spec.mk Tryz.func147 (by kernel_rfl) ?_
 refine lIn (fun z : Nat × Nat => z.1 ≤ c.length ∧ z.2 ≤ k ∧ callIdx c k = (callIdx (c.drop z.1) z.2).map (· + z.1))
  (fun (i, j) => ⟨[(1, .val (.int .i64 j)), (7, .val (.slice base c.length cap)), (8, .val (.int .i64 c.length)), (9, .val (.int .i64 i))], [], 0, μ, Mem.nil⟩) (fun z => c.length - z.1)
  (0, k) ⟨Nat.zero_le _, Nat.le_refl _, by simp⟩ (fun (_, _) => ⟨rfl, rfl⟩) ⟨⟨rfl, rfl, rfl, rfl, trivial⟩, trivial, rfl, rfl⟩ ?_
 rintro ⟨i, j⟩ ⟨hi, hjk, he⟩
 dsimp only at hi hjk he
 refine ifd (fun hlt => ?_) (fun hlt => ?_)
 ·have w_ := aSo (l := c) (i := i) (by omega)
  obtain ⟨x, hx⟩ := w_
  have w_ := Gl.elem hsl hx
  obtain ⟨ad, p, hel, hr⟩ := w_
  rw [drop_at hx] at he
  refine eIn hel ?_
  intro r6
  have hz := hsl.max
  refine ifd (fun h9 => ?_) (fun h9 => ?_)
  ·refine ifd (fun h0 => ?_) (fun h0 => ?_)
   ·obtain rfl : j = 0 := by omega
    rw [callIdx, if_pos h9] at he
    exact rPl ⟨by rw [he]; simp [placeI], rfl⟩
   ·obtain ⟨j', rfl⟩ : ∃ m, j = m + 1 := ⟨j - 1, by omega⟩
    rw [callIdx, if_pos h9, Option.map_map] at he
    refine num64 (by omega) (by omega) ?_
    refine num64 (by omega) (by omega) ⟨(i + 1, j'), ⟨by dsimp only; omega, by dsimp only; omega, ?_⟩, by dsimp only; omega, ⟨⟨?_, rfl, rfl, rfl, trivial⟩, trivial, rfl, rfl⟩⟩
    ·dsimp only
     rw [he]; congr 1; funext a; show a + 1 + i = a + (i + 1); omega
    ·show some (SV.val (.int .i64 _)) = some (SV.val (.int .i64 _))
     congr 3; omega
  ·have he2 : callIdx c k = ((callIdx (c.drop (i + 1)) j).map (· + 1)).map (· + i) := by
    rw [he]
    cases j <;> rw [callIdx, if_neg h9]
   rw [Option.map_map] at he2
   refine num64 (by omega) (by omega) ⟨(i + 1, j), ⟨by dsimp only; omega, hjk, ?_⟩, by dsimp only; omega, ⟨⟨rfl, rfl, rfl, rfl, trivial⟩, trivial, rfl, rfl⟩⟩
   dsimp only
   rw [he2]; congr 1; funext a; show a + 1 + i = a + (i + 1); omega
 ·obtain rfl : i = c.length := by omega
  rw [List.drop_length, callIdx] at he
  exact rPl ⟨by rw [he]; rfl, rfl⟩
noncomputable def callI (c : List Gl) (call : Int) : Int := if call < 0 then -1 else placeI (callIdx c call.toNat)
theorem l33At_spec {c : List Gl} {base : Option Addr} {cap : Nat} {call : Int} (hsl : Sl μ 4 base c.length (c.map Gl.d)) (hb : c.length ≤ 1000000) :
  Spec Tryz.prog 141 [.slice base c.length cap, .int .i64 call] μ fun r μ' => r = .int .i64 (callI c call) ∧ μ' = μ := by
 refine Spec.mk Tryz.func141 (by kernel_rfl) ?_
 refine lIn (fun z : Nat × Nat => z.1 ≤ c.length ∧ z.2 ≤ z.1 ∧ (0 ≤ call → (z.2 : Int) ≤ call ∧ callIdx c call.toNat = (callIdx (c.drop z.1) (call.toNat - z.2)).map (· + z.1)))
  (fun (i, j) => ⟨[(1, .val (.int .i64 call)), (5, .val (.int .i64 j)), (8, .val (.slice base c.length cap)), (9, .val (.int .i64 c.length)), (10, .val (.int .i64 i))], [], 0, μ, Mem.nil⟩) (fun z => c.length - z.1)
  (0, 0) ⟨Nat.zero_le _, Nat.le_refl _, fun h => ⟨h, by simp⟩⟩ (fun (_, _) => ⟨rfl, rfl⟩) ⟨⟨rfl, rfl, rfl, rfl, rfl, trivial⟩, trivial, rfl, rfl⟩ ?_
 rintro ⟨i, j⟩ ⟨hi, hj, he⟩
 dsimp only at hi hj he
 refine ifd (fun hlt => ?_) (fun hlt => ?_)
 ·have w_ := aSo (l := c) (i := i) (by omega)
  obtain ⟨x, hx⟩ := w_
  have w_ := Gl.elem hsl hx
  obtain ⟨ad, p, hel, hr⟩ := w_
  rw [drop_at hx] at he
  refine eIn hel ?_
  intro r6
  refine ifd (fun h9 => ?_) (fun h9 => ?_)
  ·refine ifd (fun h0 => ?_) (fun h0 => ?_)
   ·have hc : 0 ≤ call := by omega
    have he := (he hc).2
    rw [show call.toNat - j = 0 by omega, callIdx, if_pos h9] at he
    exact rPl ⟨by rw [callI, if_neg (by omega), he]; simp [placeI], rfl⟩
   ·refine num64 (by omega) (by omega) ?_
    refine num64 (by omega) (by omega) ⟨(i + 1, j + 1), ⟨by dsimp only; omega, by dsimp only; omega, fun hc => ?_⟩, by dsimp only; omega, ⟨⟨rfl, rfl, rfl, rfl, rfl, trivial⟩, trivial, rfl, rfl⟩⟩
    have he := he hc
    refine ⟨by dsimp only; omega, ?_⟩
    have he := he.2
    obtain ⟨m, hm⟩ : ∃ m, call.toNat - j = m + 1 := ⟨call.toNat - j - 1, by omega⟩
    rw [hm, callIdx, if_pos h9, Option.map_map] at he
    dsimp only
    rw [he, show call.toNat - (j + 1) = m by omega]; congr 1; funext a; show a + 1 + i = a + (i + 1); omega
  ·refine num64 (by omega) (by omega) ⟨(i + 1, j), ⟨by dsimp only; omega, by dsimp only; omega, fun hc => ⟨(he hc).1, ?_⟩⟩, by dsimp only; omega, ⟨⟨rfl, rfl, rfl, rfl, rfl, trivial⟩, trivial, rfl, rfl⟩⟩
   have he2 : callIdx c call.toNat = ((callIdx (c.drop (i + 1)) (call.toNat - j)).map (· + 1)).map (· + i) := by
    rw [(he hc).2]
    cases (call.toNat - j) <;> rw [callIdx, if_neg h9]
   rw [Option.map_map] at he2
   dsimp only
   rw [he2]; congr 1; funext a; show a + 1 + i = a + (i + 1); omega
 ·obtain rfl : i = c.length := by omega
  refine rPl ⟨?_, rfl⟩
  rw [callI]
  by_cases hc : call < 0
  ·rw [if_pos hc]
  ·have he := (he (by omega)).2
   rw [List.drop_length, callIdx] at he
   rw [if_neg hc, he]; rfl
theorem l07Shift_spec {n : Int} (hn : 0 ≤ n ∧ n ≤ 1000) : ∀ (x : T) {μ : Mem} {v : Value}, x.good → RepV μ x.tm.d v →
  Spec Tryz.prog 144 [v, .int .i64 n] μ fun v μ' => RepV μ' (x.subst (shF n)).tm.d v := by
 intro x
 induction x with
 | var m =>
  intro μ v hg hv
  have hg : 0 ≤ m ∧ m ≤ 100000 := hg
  have w_ := Tm.invV hv
  obtain ⟨p, rfl⟩ := w_
  refine Spec.mk Tryz.func144 (by kernel_rfl) ?_
  intro r1 r2
  refine ifd (fun _ => ?_) (fun h => absurd rfl h)
  refine num64 (show (-9223372036854775808 : Int) ≤ m + n by omega) (show m + n < (9223372036854775808 : Int) by omega) ?_
  refine cGv (l02Var_spec _) ?_
  exact rPl (varV_rep (m + n))
 | pair a b iha ihb =>
  intro μ v hg hv
  have w_ := Tm.inv hv
  obtain ⟨base', cap', rfl, hsa⟩ := w_
  have w_ := T.parts hsa
  obtain ⟨ad, ad', p, p', h1, h2, hra, hrb⟩ := w_
  refine Spec.mk Tryz.func144 (by kernel_rfl) ?_
  intro r1 r2
  refine ifd (fun h => absurd h (by simp)) (fun _ => ?_)
  refine ifd (fun _ => ?_) (fun h => absurd rfl h)
  refine eIn h1 ?_
  refine eIn h2 ?_
  refine cPl (iha hg.1 hra) fun v1 μ1 hle1 hR1 => ?_
  refine cPl (ihb hg.2 (hrb.mono hle1)) fun v2 μ2 hle2 hR2 => ?_
  refine cPl (l02Pair_spec (hR1.mono hle2) hR2) fun v3 μ3 hle3 hR3 => ?_
  have w_ := Tm.invV hR3
  obtain ⟨q, rfl⟩ := w_
  exact rPl hR3
 | _ =>
  intro μ v hg hv
  have w_ := Tm.invV hv
  obtain ⟨p, rfl⟩ := w_
  refine Spec.mk Tryz.func144 (by kernel_rfl) ?_
  intro r1 r2
  refine ifd (fun h => absurd h (by simp [T.tm, Tm.kind])) (fun _ => ?_)
  refine ifd (fun h => absurd h (by simp [T.tm, Tm.kind])) (fun _ => ?_)
  exact rPl hv
theorem l14Shift_spec {n : Int} (hn : 0 ≤ n ∧ n ≤ 1000) : ∀ (g : Gl) {μ : Mem} {v : Value}, RepV μ g.d v → g.Sh → Spec Tryz.prog 85 [v, .int .i64 n] μ fun v μ' => RepV μ' (g.put (shF n)).d v :=
 Gl.ind fun g ih μ v hv hS => by
  have w_ := Gl.inv hv
  obtain ⟨p, rfl, hts, hgs⟩ := w_
  have w_ := lift_ok hS.top.tm
  obtain ⟨xs, hxs, hok⟩ := w_
  have hg8 := hS.top.gl
  have hx4 : xs.length ≤ 4 := by
   have T := hS.top
   have e9 := T.ln9; have e2 := T.ln2; have e1 := T.ln1; have e0 := T.ln0; have k0 := T.k0; have k1 := T.k1
   have : g.terms.length = xs.length := by rw [hxs, List.length_map]
   omega
  have hput : (g.put (shF n)).d = .st [.i g.kind, .s g.name, .sl 4 (((xs.map (T.subst (shF n))).map T.tm).map Tm.d), .sl 4 ((g.goals.map (Gl.put (shF n))).map Gl.d)] := by
   rw [Gl.d_eq, Gl.put_kind, Gl.put_name, Gl.put_goals, Gl.put_terms, hxs]
   simp [List.map_map, Function.comp_def, T.toT_tm]
  rw [hxs, List.length_map] at hts ⊢
  refine Spec.mk Tryz.func85 (by kernel_rfl) ?_
  intro r1 r2 r3
  refine loop_nil (fun p : Nat × Option Nat × Nat × List Value × Mem => p.1 ≤ xs.length ∧ μ.Le p.2.2.2.2 ∧ Rows p.2.2.2.2 4 ((((xs.take p.1).map (T.subst (shF n))).map T.tm).map Tm.d) p.2.2.2.1)
   (fun (i, b, c, ys, μ') => ⟨[(1, .val (.int .i64 n)), (2, .loc 0 r1 0), (4, .loc 1 r2 0), (5, .loc 2 r3 0), (16, .val (.slice p.1.1 xs.length p.1.2)), (17, .val (.int .i64 xs.length)), (18, .val (.int .i64 i))],
    [(0, some (.cells r1 [.val (.int .i64 g.kind), .val (.string g.name), .val (.slice p.1.1 xs.length p.1.2), .val (.slice p.2.1 g.goals.length p.2.2)] 30)), (1, some (.cells r2 [.val (.int .i64 0), .val (.string ⟨#[]⟩), .val (.slice none 0 0), .val (.slice none 0 0)] 30)), (2, some (.cells r3 [.val (.int .i64 g.kind), .val (.string g.name), .row 3 b ys.length c, .val (.slice none 0 0)] 30)), (3, some (.row b c 50 4 ys))], 4, μ', Mem.nil⟩) (fun p => xs.length - p.1)
   (0, none, 0, [], μ) ⟨by simp, Mem.Le.refl _, .nil⟩ (fun (_, _, _, _, _) => ⟨rfl, rfl⟩) ⟨⟨⟨_, rfl, .inl rfl⟩, ⟨_, rfl, .inl rfl⟩, ⟨_, rfl, .inl rfl⟩, ⟨_, rfl, .inl rfl⟩, ⟨_, rfl, .inl rfl⟩, ⟨_, rfl, .inl rfl⟩, ⟨_, rfl, .inl rfl⟩, trivial⟩, ⟨.inl rfl, .inl rfl, .inr (.inr ⟨_, _, _, _, rfl, rfl, .inl rfl, .inl rfl, .inr ⟨3, rfl, rfl, Nat.le_refl _⟩, .inl rfl, trivial⟩), .inr (.inl ⟨_, _, rfl, Nat.le_refl _⟩), trivial⟩, rfl, rfl⟩ ?_
  rintro ⟨i, b, c, ys, μ'⟩ ⟨hi, hle, hrows⟩
  dsimp only at hi hle hrows
  have hlen := hrows.len
  simp only [List.length_map, List.length_take] at hlen
  refine ifd (fun h => ?_) (fun h => ?_)
  ·have w_ := aSo (l := xs) (i := i) (by omega)
   obtain ⟨t, ht⟩ := w_
   have ht' : (xs.map T.tm)[i]? = some t.tm := by simp [ht]
   have w_ := Tm.elem (hts.mono hle) ht'
   obtain ⟨ad, p3, hel, hr⟩ := w_
   refine eIn hel ?_
   intro r4
   refine cPl (l07Shift_spec hn t (hok t (mAt ht)).1 hr) fun v' μ'' hle2 hR => ?_
   have w_ := Tm.invV hR
   obtain ⟨q, rfl⟩ := w_
   intro r5
   refine gIn ?_ ?_ fun b' c' _ => ?_
   ·show (ys.length + 1) * 56 ≤ _; omega
   ·exact Nat.le_trans (m := 100000000) (show ys.length + 1 ≤ _ by omega) (by decide)
   refine num64 (by omega) (by omega) ⟨(i + 1, b', c', _, μ''), ⟨by dsimp only; omega, hle.trans hle2, ?_⟩, by dsimp only; omega, ⟨⟨rfl, rfl, rfl, rfl, rfl, rfl, rfl, trivial⟩, ⟨rfl, rfl, rfl, rfl, trivial⟩, rfl, rfl⟩⟩
   dsimp only
   rw [List.take_add_one, ht, Option.toList_some]
   simp only [List.map_append, List.map_cons, List.map_nil]
   exact (hrows.mono hle2).append (Rows.one hR (Tm.d_n _))
  ·obtain rfl : i = xs.length := by omega
   rw [List.take_length] at hrows
   have hgs1 := hgs.mono hle
   refine loop_nil (fun p : Nat × Option Nat × Nat × List Value × Mem => p.1 ≤ g.goals.length ∧ μ'.Le p.2.2.2.2 ∧ Rows p.2.2.2.2 4 (((g.goals.take p.1).map (Gl.put (shF n))).map Gl.d) p.2.2.2.1)
    (fun (i, b2, c2, zs, μ'') => ⟨[(1, .val (.int .i64 n)), (4, .loc 1 r2 0), (5, .loc 2 r3 0), (32, .val (.slice p.2.1 g.goals.length p.2.2)), (33, .val (.int .i64 g.goals.length)), (34, .val (.int .i64 i))],
     [(1, some (.cells r2 [.val (.int .i64 0), .val (.string ⟨#[]⟩), .val (.slice none 0 0), .val (.slice none 0 0)] 30)), (2, some (.cells r3 [.val (.int .i64 g.kind), .val (.string g.name), .row 3 b ys.length c, .row 4 b2 zs.length c2] 30)), (3, some (.row b c 50 4 ys)), (4, some (.row b2 c2 30 4 zs))], 5, μ'', Mem.nil⟩) (fun p => g.goals.length - p.1)
    (0, none, 0, [], μ') ⟨by simp, Mem.Le.refl _, .nil⟩ (fun (_, _, _, _, _) => ⟨rfl, rfl⟩) ⟨⟨⟨_, rfl, .inl rfl⟩, ⟨_, rfl, .inl rfl⟩, ⟨_, rfl, .inl rfl⟩, ⟨_, rfl, .inl rfl⟩, ⟨_, rfl, .inl rfl⟩, ⟨_, rfl, .inl rfl⟩, trivial⟩, ⟨.inl rfl, .inr (.inr ⟨_, _, _, _, rfl, rfl, .inl rfl, .inl rfl, .inl rfl, .inr ⟨4, rfl, rfl, Nat.le_refl _⟩, trivial⟩), .inl rfl, .inr (.inl ⟨_, _, rfl, Nat.le_refl _⟩), trivial⟩, rfl, rfl⟩ ?_
   rintro ⟨i, b2, c2, zs, μ''⟩ ⟨hi, hle3, hrows2⟩
   dsimp only at hi hle3 hrows2
   have hlen2 := hrows2.len
   simp only [List.length_map, List.length_take] at hlen2
   refine ifd (fun h => ?_) (fun h => ?_)
   ·have w_ := aSo (l := g.goals) (i := i) (by omega)
    obtain ⟨t, ht⟩ := w_
    have w_ := Gl.elem (hgs1.mono hle3) ht
    obtain ⟨ad, p3, hel, hr⟩ := w_
    refine eIn hel ?_
    intro r4
    refine cPl (ih t (mAt ht) hr (hS.sub t (mAt ht))) fun v' μ3 hle4 hR => ?_
    have w_ := Gl.invV hR
    obtain ⟨q, rfl⟩ := w_
    intro r5
    refine gIn ?_ ?_ fun b' c' _ => ?_
    ·show (zs.length + 1) * 72 ≤ _; omega
    ·exact Nat.le_trans (m := 100000000) (show zs.length + 1 ≤ _ by omega) (by decide)
    refine num64 (by omega) (by omega) ⟨(i + 1, b', c', _, μ3), ⟨by dsimp only; omega, hle3.trans hle4, ?_⟩, by dsimp only; omega, ⟨⟨rfl, rfl, rfl, rfl, rfl, rfl, trivial⟩, ⟨rfl, rfl, rfl, rfl, trivial⟩, rfl, rfl⟩⟩
    dsimp only
    rw [List.take_add_one, ht, Option.toList_some]
    simp only [List.map_append, List.map_cons, List.map_nil]
    exact (hrows2.mono hle4).append (Rows.one hR (Gl.d_n _))
   ·obtain rfl : i = g.goals.length := by omega
    rw [List.take_length] at hrows2
    refine rFz [3, 4] fun μ2 hle5 hno hrow => fun μ3 hle6 hno2 hrow2 => .inl ?_
    rw [hput]
    exact ⟨_, rfl, RepS.int (RepS.str (RepS.cons1 ((Rows.sl hrow (((hrows.mono hle3)).mono hle5) (Nat.le_trans (m := 100000000) (by omega) (by decide))).mono hle6) (RepS.last (Rows.sl hrow2 ((hrows2.mono hle5).mono hle6) (Nat.le_trans (m := 100000000) (by omega) (by decide))))))⟩
theorem shifted1_looks {n : Int} {rn : Nat} (hn : 0 ≤ n ∧ n ≤ 1000) (hat : μ rn = some (.cells #[.int .i64 n] 3 (0, 0))) :
  LooksOn InV 188 [.pointer (some ⟨rn, 0, none⟩)] μ (shF n) := fun μ' hle m hm => by
 obtain ⟨hm0, hm1⟩ := hm
 refine Spec.mk Tryz.func188 (by kernel_rfl) ?_
 intro r3
 refine ext_intro [.int .i64 n] rfl (box_at (hle _ _ hat)) ?_
 refine num64 (by omega) (by omega) ?_
 refine cGv (variable_spec _) ?_
 exact rPl ⟨_, rfl, varV_rep _⟩
theorem shifted_spec {n : Int} (hn : 0 ≤ n ∧ n ≤ 1000) (x : T) {v : Value} (hg : x.good) (hv : RepV μ x.tm.d v) :
  Spec Tryz.prog 149 [v, .int .i64 n] μ fun v μ' => Fresh μ μ' (x.subst (shF n)).tm.d v := by
 have w_ := Tm.invV hv
 obtain ⟨p, rfl⟩ := w_
 refine Spec.mk Tryz.func149 (by kernel_rfl) ?_
 intro r2 r3 r4
 refine call_frz [1] ?_
 intro μ2 hle2 hno2 hat2
 refine call_go (mapVars_specQ (Q := InV) x (fun m hm => T.good_vars hg m hm) (shifted1_looks hn hat2) (RepV.mono hle2 hv)) fun v3 μ3 hle3 hR3 => ?_
 have w_ := Tm.invV hR3.rep
 obtain ⟨q, rfl⟩ := w_
 exact rPl (hR3.mono hle2 (Mem.Le.refl _))
theorem unfolded1_maps {n : Int} {rn : Nat} (hn : 0 ≤ n ∧ n ≤ 1000) (hat : μ rn = some (.cells #[.int .i64 n] 3 (0, 0))) :
  Maps 148 [.pointer (some ⟨rn, 0, none⟩)] μ (fun x => some (x.subst (shF n))) := fun μ' hle x v hx hv => by
 have w_ := Tm.invV hv
 obtain ⟨p, rfl⟩ := w_
 refine Spec.mk Tryz.func148 (by kernel_rfl) ?_
 intro r2 r3
 refine ext_intro [.int .i64 n] rfl (box_at (hle _ _ hat)) ?_
 refine cPl (shifted_spec hn x hx.1 hv) fun v2 μ2 hle2 hR => ?_
 have w_ := Tm.invV hR.rep
 obtain ⟨q, rfl⟩ := w_
 exact rPl ⟨_, rfl, hR⟩
end
end Go.Vx
namespace Go.Vx
open Go.Proofs Classical
theorem RowO.cut {h : Mem} {r cap : Nat} {ty : TypeId} {es : Nat} {xs : List Value} {cs : List Value} {k j : Nat} {x x' : Value} {vs : List Value} (h1 : xs.length ≤ cap) (h2 : xs.length ≤ maxLen) (h3 : ∀ x ∈ xs, (vcells x).length = es ∧ ∀ u ∈ vcells x, u.oneCell' = true) (h4 : cs.length = cap * es) (h5 : cs.take (xs.length * es) = xs.flatMap vcells)
  (hx : xs[k]? = some x) (hv : vcells x' = (vcells x).take j ++ vs ++ (vcells x).drop (j + vs.length)) (hj : j + vs.length ≤ es) (ho : ∀ u ∈ vs, u.oneCell' = true) :
  RowO (h.set r (.cells (List.toArray (cs.take (k * es + j) ++ vs ++ cs.drop (k * es + j + vs.length))) ty (0, 0))) r cap ty es (xs.set k x') := by
 have hk := (List.getElem?_eq_some_iff.1 hx).1
 have hxm := List.mem_of_getElem? hx
 have hxl := (h3 x hxm).1
 obtain ⟨A, B, rfl, hA⟩ : ∃ A B, xs = A ++ x :: B ∧ A.length = k := ⟨xs.take k, xs.drop (k + 1), by
  rw [← (List.getElem?_eq_some_iff.1 hx).2]
  rw [List.getElem_cons_drop, List.take_append_drop], by rw [List.length_take]; omega⟩
 subst hA
 have fA : (A.flatMap vcells).length = A.length * es := flat_len A fun y hy => (h3 y (by simp [hy])).1
 have fB : (B.flatMap vcells).length = B.length * es := flat_len B fun y hy => (h3 y (by simp [hy])).1
 obtain ⟨rest, hrest⟩ : ∃ rest, cs = A.flatMap vcells ++ vcells x ++ B.flatMap vcells ++ rest := ⟨cs.drop ((A ++ x :: B).length * es), by
  have h6 := List.take_append_drop ((A ++ x :: B).length * es) cs
  rw [h5] at h6
  refine h6.symm.trans ?_
  simp⟩
 have e1 : cs.take (A.length * es + j) = A.flatMap vcells ++ (vcells x).take j := by
  rw [hrest, List.append_assoc, List.append_assoc, ← fA, List.take_length_add_append, List.take_append_of_le_length (by omega)]
 have e2 : cs.drop (A.length * es + j + vs.length) = (vcells x).drop (j + vs.length) ++ B.flatMap vcells ++ rest := by
  rw [hrest, List.append_assoc, List.append_assoc, ← fA, Nat.add_assoc, List.drop_length_add_append, List.drop_append_of_le_length (by omega), List.append_assoc]
 have e3 : (A ++ x :: B).set A.length x' = A ++ x' :: B := by simp
 rw [e3]
 have hx'l : (vcells x').length = es := by
  rw [hv]; simp only [List.length_append, List.length_take, List.length_drop]; omega
 refine ⟨_, Mem.set_at _ _ _, by simpa using h1, by simpa using h2, fun y hy => ?_, ?_, ?_⟩
 ·rcases List.mem_append.1 hy with hy | hy
  ·exact h3 y (by simp [hy])
  rcases List.mem_cons.1 hy with rfl | hy
  ·refine ⟨hx'l, fun u hu => ?_⟩
   rw [hv] at hu
   simp only [List.mem_append] at hu
   rcases hu with (hu | hu) | hu
   ·exact (h3 x hxm).2 u (List.mem_of_mem_take hu)
   ·exact ho u hu
   ·exact (h3 x hxm).2 u (List.mem_of_mem_drop hu)
  ·exact h3 y (by simp [hy])
 ·have h4' := h4
  rw [hrest] at h4'
  rw [e1, e2]
  simp only [List.length_append, List.length_take, List.length_drop] at h4' ⊢
  omega
 ·rw [e1, e2]
  have : A.flatMap vcells ++ (vcells x).take j ++ vs ++ ((vcells x).drop (j + vs.length) ++ B.flatMap vcells ++ rest) = (A ++ x' :: B).flatMap vcells ++ rest := by
   simp [hv]
  rw [this]
  have hfl : ((A ++ x' :: B).flatMap vcells).length = (A ++ x' :: B).length * es := flat_len _ fun y hy => by
   rcases List.mem_append.1 hy with hy | hy
   ·exact (h3 y (by simp [hy])).1
   rcases List.mem_cons.1 hy with rfl | hy
   ·exact hx'l
   ·exact (h3 y (by simp [hy])).1
  rw [← hfl, List.take_left]
theorem srcAt_mono {μ μ' : Mem} {base : Option Addr} {n es : Nat} {ys : List Value} (k : SrcAt μ base n es ys) (h : μ.Le μ') : SrcAt μ' base n es ys :=
 ⟨k.1, k.2.1, k.2.2.imp id fun ⟨a, e, f⟩ => ⟨a, e, fun j v hj => h.cell (f j v hj)⟩⟩
theorem sto_row {h : Mem} {ad : Addr} {vs : List Value} {K : Mem → Prop} {r cap : Nat} {ty : TypeId} {es : Nat} {xs : List Value} {k j : Nat} {x : Value} (x' : Value) (hr : RowO h r cap ty es xs) (hx : xs[k]? = some x) (ha : ad = ⟨r, k * es + j, none⟩) (hv : vcells x' = (vcells x).take j ++ vs ++ (vcells x).drop (j + vs.length)) (hj : j + vs.length ≤ es) (ho : ∀ u ∈ vs, u.oneCell' = true)
  (hK : ∀ o, RowO (h.set r o) r cap ty es (xs.set k x') → K (h.set r o)) : stoVC h ad vs K := by
 subst ha
 obtain ⟨cs, hc, h1, h2, h3, h4, h5⟩ := hr
 have hk := (List.getElem?_eq_some_iff.1 hx).1
 refine sIn cs ty hc rfl ?_ (hK _ (RowO.cut h1 h2 h3 h4 h5 hx hv hj ho))
 show k * es + j + vs.length ≤ cs.length
 rw [h4]
 have := Nat.mul_le_mul_right es (show k + 1 ≤ cap by omega)
 rw [Nat.succ_mul] at this
 omega
section
variable {X : Type} {es : Nat} {f : X → D}
theorem Prs.set {g' : Mem} {p' : X × Value} (h1 : Own (f p'.1) g' (vcells p'.2)) (hn : (f p'.1).n = es) (hz : (vcells p'.2).length = es ∧ ∀ u ∈ vcells p'.2, u.oneCell' = true) : ∀ {ps : List (X × Value)} {g : Mem} (k : Nat), Prs es f ps g → k < ps.length → Apart g g' → ∃ g2 : Mem, Prs es f (ps.set k p') g2 ∧ g2.Le (g.join g')
 | [], _, _, _, h, _ => absurd h (Nat.not_lt_zero _)
 | q :: ps, g, 0, h, _, ha => by
  obtain ⟨ga, gb, hpp, _, _, h3⟩ := h.uncons
  have ha2 : Apart g' gb := fun b hb => by
   cases e : gb b with
   | none => rfl
   | some o => exact absurd (ha b (by rw [hpp.right b o e]; simp)) hb
  refine ⟨g'.join gb, Prs.cons (Parts.join ha2) h1 hn hz h3, join_le (fun b o hb => ?_) (hpp.right.trans (Mem.le_join g g'))⟩
  rw [Mem.join_get]
  cases e : g b with
  | none => exact hb
  | some o' => have := ha b (by rw [e]; simp); rw [this] at hb; cases hb
 | q :: ps, g, k + 1, h, hk, ha => by
  obtain ⟨ga, gb, hpp, ho, hqn, h3⟩ := h.uncons
  have hab : Apart gb g' := fun b hb => ha b (by
   cases e : gb b with
   | none => exact absurd e hb
   | some o => rw [hpp.right b o e]; simp)
  obtain ⟨g2, h4, h5⟩ := Prs.set h1 hn hz k h3 (Nat.lt_of_succ_lt_succ hk) hab
  have haa : Apart ga g2 := fun b hb => by
   cases e : g2 b with
   | none => rfl
   | some o =>
    have h6 := h5 b o e
    rw [Mem.join_get] at h6
    have hgb := hpp.apart b hb
    rw [hgb] at h6
    have hg : g b ≠ none := by
     cases e2 : ga b with
     | none => exact absurd e2 hb
     | some o2 => rw [hpp.left b o2 e2]; simp
    have := ha b hg
    rw [this] at h6; cases h6
  refine ⟨ga.join g2, Prs.cons (Parts.join haa) ho hqn (h.size q (by simp)) h4, join_le (hpp.left.trans (Mem.le_join g g')) (h5.trans ?_)⟩
  exact join_le (hpp.right.trans (Mem.le_join g g')) (Mem.le_join_right ha)
end
theorem Grown.at {es : Nat} {μ μ1 : Mem} {ds : List D} {us : List Value} (h : Grown es μ μ1 ds us) (hz : ∀ y ∈ us, (vcells y).length = es ∧ ∀ u ∈ vcells y, u.oneCell' = true) {k : Nat} {d : D} {u : Value} (hd : ds[k]? = some d) (hu : us[k]? = some u) : ∃ g' : Mem, Own d g' (vcells u) := by
 obtain ⟨g, ho, _, _⟩ := h
 have w_ := Prs.zip (f := id) (xs := ds) (by simpa using ho) hz
 obtain ⟨hP, -, -⟩ := w_
 obtain ⟨g', _, h2⟩ := Prs.at hP (d, u) (List.mem_of_getElem? (i := k) (by rw [List.getElem?_zip_eq_some]; exact ⟨hd, hu⟩))
 exact ⟨g', h2⟩
theorem Grown.set {es : Nat} {μ μ1 μ2 : Mem} {ds : List D} {us : List Value} {k : Nat} {d' : D} {v' : Value} (h : Grown es μ1 μ2 ds us) (hz : ∀ y ∈ us, (vcells y).length = es ∧ ∀ u ∈ vcells y, u.oneCell' = true) (hk : k < us.length) (hv : Fresh μ μ1 d' v') (h01 : μ.Le μ1) (h12 : μ1.Le μ2) (hn : d'.n = es) (hz' : (vcells v').length = es ∧ ∀ u ∈ vcells v', u.oneCell' = true) : Grown es μ μ2 (ds.set k d') (us.set k v') := by
 obtain ⟨g, ho, hg, hnew⟩ := h
 obtain ⟨g', ho', hg', hnew'⟩ := hv
 have hl := ho.len
 have hap : Apart g g' := fun b hb => by
  have h1 := hnew b hb
  cases e : g' b with
  | none => rfl
  | some o => have := hg' b o e; rw [h1] at this; cases this
 have w_ := Prs.zip (f := id) (xs := ds) (by simpa using ho) hz
 obtain ⟨hP, e1, e2⟩ := w_
 obtain ⟨g2, h2, h3⟩ := Prs.set (f := id) (p' := (d', v')) ho'.cells hn hz' k hP (by rw [List.length_zip]; omega) hap
 have h4 := h2.own
 rw [List.map_set, List.map_set, e2] at h4
 have e3 : (ds.zip us).map (fun p => id p.1) = ds := e1
 rw [e3] at h4
 refine ⟨g2, h4, fun b o hb => ?_, fun b hb => ?_⟩
 ·exact join_le hg (hg'.trans h12) b o (h3 b o hb)
 ·cases e : g2 b with
  | none => exact absurd e hb
  | some o =>
   have h5 := h3 b o e
   rw [Mem.join_get] at h5
   cases e6 : g b with
   | some o2 =>
    have h7 := hnew b (by rw [e6]; simp)
    cases e8 : μ b with
    | none => rfl
    | some o3 => have := h01 b o3 e8; rw [h7] at this; cases this
   | none =>
    rw [e6] at h5
    have h5 : g' b = some o := h5
    exact hnew' b (by rw [h5]; simp)
end Go.Vx
namespace Go.Vx
open Go.Proofs Classical
def unfR (P : Pg → Value → Prop) (o : Option (Pg × Nat)) (v : Value) : Prop := match o with
 | none => v = .tuple #[.agg #[.slice none 0 0], .int .i64 0, .bool false]
 | some (y, n) => ∃ tv, v = .tuple #[tv, .int .i64 n, .bool true] ∧ P y tv
theorem csD_sl {μ : Mem} {c : List Gl} {p : Option Addr × Nat} (h : RepV μ (csD c) (.slice p.1 c.length p.2)) : Sl μ 4 p.1 c.length (c.map Gl.d) := by
 have w_ := Rep.sl (xs := c.map Gl.d) h
 obtain ⟨b', c', e1, hs⟩ := w_
 have w_ := Value.slice.inj e1
 obtain ⟨rfl, _, _⟩ := w_
 simpa using hs
theorem eqG_rep {μ : Mem} {n : Int} {i : Nat} {t : Tm} {v : Value} (h : RepV μ (.sl 4 ([(T.var (n + i)).tm, t].map Tm.d)) v) : RepV μ (eqG n i t).d (.agg #[.int .i64 2, .string ⟨#[]⟩, v, .slice none 0 0]) := by
 rw [eqG, Gl.d_eq]
 have hnil : RepV μ (.sl 4 (([] : List Gl).map Gl.d)) (.slice none 0 0) := ⟨none, 0, rfl, ⟨Nat.zero_le _, Nat.zero_le _⟩, (fun _ h => nomatch h), .inl rfl⟩
 exact ⟨_, rfl, RepS.int (RepS.str (RepS.cons1 h (RepS.last hnil)))⟩
section
variable {μ : Mem}
set_option maxHeartbeats 4000000 in
set_option maxRecDepth 20000 in
theorem impl_unfolded_spec {p : Pg} {nm : ByteArray} {clause call : Int} {v : Value} (hp : RepV μ p.d v) (hcl : InR call) :
  Spec Tryz.prog 87 [v, .string nm, .int .i64 clause, .int .i64 call] μ fun v μ' => unfR (fun y tv => Fresh μ μ' y.d tv) (unfO p nm clause call) v := by
 have hp0 := hp
 have w_ := Pg.inv hp
 obtain ⟨q, rfl, hrl⟩ := w_
 refine Spec.mk Tryz.func87 (by kernel_rfl) ?_
 intro r4 r8
 refine cPl (impl_FindRel_spec hp0) fun v1 μ1 hle1 hR => ?_
 obtain rfl := hR
 refine ifd (fun h => ?_) (fun h => ?_)
 ·refine rPl ?_
  rw [unfO_none fun x hx => by have := hx.find; omega]
  rfl
 have w_ := Int.eq_ofNat_of_zero_le (show 0 ≤ findR p nm by omega)
 obtain ⟨k, hk⟩ := w_
 have hpo : p.Ok := Classical.byContradiction fun e => by rw [findR, if_neg e] at h; exact h (by decide)
 have hfind : findR p nm = relAt p nm := by rw [findR, if_pos hpo]
 have w_ := relAt_get (p := p) (s := nm) (by omega)
 obtain ⟨k', r, hk', hr, -⟩ := w_
 obtain rfl : k = k' := by omega
 have hro := hpo.2 _ r hr
 have har0 := hro.ar0
 have har4 := hro.ar4
 have hlo0 := hro.lo0
 have hlo8 := hro.lo8
 have w_ := Rl.elemA (hrl.mono hle1) hr
 obtain ⟨adr, qr, helr, hrr, hbody⟩ := w_
 have hbody : RepV μ1 r.body.d (.agg (r.body.cs qr).toArray) := hbody
 have hX : ∀ x, UnfAt p nm clause call x → x.k = k ∧ x.r = r := fun x hx => by
  have h1 := hx.find
  have h2 : x.k = k := by omega
  have h3 := hx.rel
  rw [h2, hr] at h3
  exact ⟨h2, (Option.some.inj h3).symm⟩
 rw [hk]
 refine eIn helr ?_
 refine cPl (clausesOf_spec r.body hbody hro.body (by have := hro.size; omega)) fun v2 μ2 hle2 hR2 => ?_
 obtain ⟨o2, e⟩ : ∃ o, r.body.cl = o := ⟨_, rfl⟩
 rw [e] at hR2
 match o2, e, hR2 with
 | none, e, hR2 =>
  obtain rfl := hR2
  refine iIn (fun _ => ?_) (fun h => nomatch h)
  refine rPl ?_
  rw [unfO_none fun x hx => by have h1 := hx.cl; rw [(hX x hx).2, e] at h1; cases h1]
  rfl
 | some cls, e, hR2 =>
 obtain ⟨tv, rfl, hLr⟩ := hR2
 obtain ⟨pv, rfl⟩ := hLr.inv
 have hXc : ∀ x, UnfAt p nm clause call x → x.cls = cls := fun x hx => by
  have h1 := hx.cl
  rw [(hX x hx).2, e] at h1
  exact (Option.some.inj h1).symm
 refine iIn (fun h => nomatch h) (fun _ => ?_)
 refine ifd (fun h1 => ?_) (fun h1 => ?_)
 ·refine rPl ?_
  rw [unfO_none fun x hx => by have := hx.cc; omega]
  rfl
 refine ifd (fun h2 => ?_) (fun h2 => ?_)
 ·refine rPl ?_
  rw [unfO_none fun x hx => by
   have h3 := hx.cc
   have h4 := (List.getElem?_eq_some_iff.1 hx.cls).1
   rw [hXc x hx] at h4; omega]
  rfl
 refine ifd (fun h3 => ?_) (fun h3 => ?_)
 ·refine rPl ?_
  rw [unfO_none fun x hx => by have := hx.call0; omega]
  rfl
 have w_ := Int.eq_ofNat_of_zero_le (show 0 ≤ clause by omega)
 obtain ⟨c, rfl⟩ := w_
 have w_ := Int.eq_ofNat_of_zero_le (show 0 ≤ call by omega)
 obtain ⟨kc, rfl⟩ := w_
 have w_ := aSo (l := cls) (i := c) (by omega)
 obtain ⟨l, hl⟩ := w_
 have hsl := (Cls.sl hLr).1
 have w_ := cls_elem hsl hl
 obtain ⟨adl, pl, hell, hrll⟩ := w_
 have hls := csD_sl hrll
 have hbnd := Gl.cl_bnd r.body e
 have hsz := hro.size
 have hll := hbnd.1 l (mAt hl)
 have hcll := hbnd.2
 refine eIn hell ?_
 refine cPl (placeOfCall_spec hls (by omega) (show (kc : Int) ≤ 9223372036854775807 from hcl.2)) fun v3 μ3 hle3 hR3 => ?_
 obtain ⟨rfl, e3⟩ := hR3
 obtain rfl := e3.symm
 obtain ⟨oa, ea⟩ : ∃ o, callIdx l kc = o := ⟨_, rfl⟩
 rw [ea]
 match oa, ea with
 | none, ea =>
  refine ifd (fun _ => ?_) (fun h => absurd (show placeI none < 0 by decide) h)
  refine rPl ?_
  rw [unfO_none fun x hx => by
   have h4 := hx.cls
   rw [hXc x hx, show x.c = c by have := hx.cc; omega, hl] at h4
   have h5 := hx.pos
   rw [← Option.some.inj h4, Int.toNat_natCast, ea] at h5
   cases h5]
  rfl
 | some a, ea =>
 have w_ := callIdx_at ea
 obtain ⟨g, hg, h9⟩ := w_
 rw [show placeI (some a) = (a : Int) from rfl]
 refine ifd (fun h => absurd h (by omega)) (fun _ => ?_)
 have w_ := Gl.elem hls hg
 obtain ⟨adg, pg, helg, hrg⟩ := w_
 have hal := (List.getElem?_eq_some_iff.1 hg).1
 refine eIn hell ?_
 refine eIn helg ?_
 intro r15
 have hgm : g ∈ r.body.all := (Gl.cl_all r.body e l (mAt hl) g (mAt hg)).1
 have w_ := hro.calls.all g hgm h9
 obtain ⟨j, q2, hj, hq2, harq⟩ := w_
 refine cGv (relation_spec (RepV.mono (hle1.trans hle2) hp0)) ?_
 rw [hj]
 have w_ := Rl.elemA (hrl.mono (hle1.trans hle2)) hq2
 obtain ⟨adq, qq, helq, hrq, hbodyq⟩ := w_
 have hbodyq : RepV μ2 q2.body.d (.agg (q2.body.cs qq).toArray) := hbodyq
 have hqo := hpo.2 _ q2 hq2
 refine eIn helq ?_
 intro r16
 refine cPl (clausesOf_spec q2.body hbodyq hqo.body (by have := hqo.size; omega)) fun v4 μ4 hle4 hR4 => ?_
 have hAt : UnfAt p nm c kc ⟨k, r, cls, c, l, a, g, q2⟩ := ⟨hk, hr, e, rfl, hl, by omega, by rw [Int.toNat_natCast]; exact ea, hg, j, hj, hq2⟩
 obtain ⟨o4, e4⟩ : ∃ o, q2.body.cl = o := ⟨_, rfl⟩
 rw [e4] at hR4
 match o4, e4, hR4 with
 | none, e4, hR4 =>
  obtain rfl := hR4
  refine iIn (fun _ => ?_) (fun h => nomatch h)
  refine rPl ?_
  rw [unfO_bad hAt fun ds hd => by have h1 := hd.1; rw [show q2.body.cl = none from e4] at h1; cases h1]
  rfl
 | some ds, e4, hR4 =>
 obtain ⟨tv, rfl, hDr⟩ := hR4
 obtain ⟨pd, rfl⟩ := hDr.inv
 refine iIn (fun h => nomatch h) (fun _ => ?_)
 have hle14 := hle2.trans hle4
 have helr4 := helr.mono hle14
 have hLr4 := RepV.mono hle4 hLr
 have hell4 := hell.mono hle4
 have hrll4 := RepV.mono hle4 hrll
 have hrg4 := RepV.mono hle4 hrg
 refine eIn helr4 ?_
 refine eIn helr4 ?_
 refine num64 (by omega) (by omega) ?_
 intro r19
 have w_ := Rep.src hLr4
 obtain ⟨vc, hvc, hvcl, hvcc, hvcs⟩ := w_
 have w_ := Rep.src (ds := l.map Gl.d) hrll4
 obtain ⟨vl, hvl, hvll, hvlc, hvls⟩ := w_
 have hcl := (List.getElem?_eq_some_iff.1 hl).1
 have hgT := Gl.termsW hrg4
 have hgts : Sl μ4 4 pg.1.1 g.terms.length (g.terms.map Tm.d) := by
  have w_ := Rep.sl (xs := g.terms.map Tm.d) hgT
  obtain ⟨b', c', e1, hs⟩ := w_
  have w_ := Value.slice.inj e1
  obtain ⟨rfl, _, _⟩ := w_
  simpa using hs
 have hSg : g.Sh := hro.body.all r.body g hgm
 have hg4 := hSg.lens
 obtain ⟨N, hN⟩ : ∃ N : Int, r.arity + r.locals = N := ⟨_, rfl⟩
 rw [hN]
 have hN0 : 0 ≤ N ∧ N ≤ 1000 := by omega
 have hDb := Gl.cl_bnd q2.body e4
 have hqsz := hqo.size
 have hDl := hDb.1
 have hDm := hDb.2
 intro r112
 refine cut_intro 0 c rfl rfl (by omega) (by omega) ?_
 refine src_intro _ (hvcs 0 c (by omega) (by omega)) ?_
 refine gIn ?_ ?_ fun b1 c1 _ => ?_
 ·show (0 + _) * 24 ≤ _; simp; omega
 ·exact Nat.le_trans (m := 2000000000) (by simp; omega) (by decide)
 have hx0 : Rows μ4 1 ((cls.take c).map csD) (([] : List Value) ++ (vc.drop 0).take (c - 0)) := by
  have := (hvc.drop 0).take (c - 0)
  simpa [List.map_take] using this
 refine lFz (fun z : Nat × Option Nat × Nat × List Value × Mem => z.1 ≤ ds.length ∧ μ4.Le z.2.2.2.2 ∧ z.2.2.2.2 r19 = some (.cells #[.int .i64 N] 3 (0, 0)) ∧ Rows z.2.2.2.2 1 ((cls.take c ++ (ds.take z.1).map (unfC l a g N)).map csD) z.2.2.2.1)
  (fun (i, b, co, ys, μ') => ⟨[(2, .val (.int .i64 c)), (4, .loc 0 r4 0), (8, .loc 1 r8 0), (11, .val (.int .i64 k)), (12, .val (.slice pv.1 cls.length pv.2)), (14, .val (.int .i64 a)), (15, .loc 2 r15 0), (16, .loc 3 r16 0), (17, .val (.slice pd.1 ds.length pd.2)), (19, .val (.pointer (some ⟨r19, 0, none⟩))), (20, .row 5 b ys.length co), (117, .val (.slice pd.1 ds.length pd.2)), (118, .val (.int .i64 ds.length)), (119, .val (.int .i64 i))],
   [(0, some (.cells r4 [.val (.slice q.1 p.rels.length q.2)] 45)), (1, some (.cells r8 [.val (.slice none 0 0)] 45)), (2, some (.cells r15 (vals (g.cs pg)) 30)), (3, some (.cells r16 (vals (q2.cs qq)) 94)), (5, some (.row b co 28 1 ys))], 6, μ', Mem.nil⟩) (fun z => ds.length - z.1) [4] (fun (_, _, _, _, _) => ⟨rfl, rfl⟩)
  (fun μ5 hle5 hno5 hat5 => ⟨(0, b1, c1, ([] : List Value) ++ (vc.drop 0).take (c - 0), μ5), ⟨Nat.zero_le _, hle5, hat5, by simpa using hx0.mono hle5⟩, ⟨rfl, rfl, rfl, rfl, rfl, rfl, rfl, rfl, rfl, rfl, rfl, rfl, rfl, rfl, trivial⟩, ⟨rfl, rfl, rfl, rfl, rfl, trivial⟩, rfl, rfl⟩) ?_
 rintro ⟨i, b, co, ys, μ5⟩ ⟨hi, hle5, hat5, hrows⟩
 dsimp only at hi hle5 hat5 hrows
 have hyl := hrows.len
 simp only [List.length_map, List.length_append, List.length_take] at hyl
 refine ifd (fun hlt => ?_) (fun hlt => ?_)
 ·have w_ := aSo (l := ds) (i := i) (by omega)
  obtain ⟨d, hd⟩ := w_
  have w_ := cls_elem ((Cls.sl hDr).1.mono hle5) hd
  obtain ⟨adi, pi, heli, hri⟩ := w_
  have hdl := hDl d (mAt hd)
  have hds := csD_sl hri
  refine eIn heli ?_
  intro r123
  refine eIn (hell4.mono hle5) ?_
  refine cut_intro 0 a rfl rfl (by omega) (by omega) ?_
  refine src_intro _ (srcAt_mono (hvls 0 a (by omega) (by omega)) hle5) ?_
  refine gIn ?_ ?_ fun b2 c2 _ => ?_
  ·show (0 + _) * 72 ≤ _; simp; omega
  ·exact Nat.le_trans (m := 2000000000) (by simp; omega) (by decide)
  have hy0 : Rows μ5 4 ((l.take a).map Gl.d) (([] : List Value) ++ (vl.drop 0).take (a - 0)) := by
   have := (hvl.drop 0).take (a - 0)
   simpa [List.map_take] using this.mono hle5
  refine lFz (fun z : Nat × Option Nat × Nat × List Value × Mem => z.1 ≤ g.terms.length ∧ μ5.Le z.2.2.2.2 ∧ Rows z.2.2.2.2 4 ((l.take a ++ (eqsG N g.terms).take z.1).map Gl.d) z.2.2.2.1)
   (fun (j, b', co', zs, μ') => ⟨[(2, .val (.int .i64 c)), (4, .loc 0 r4 0), (8, .loc 1 r8 0), (11, .val (.int .i64 k)), (12, .val (.slice pv.1 cls.length pv.2)), (14, .val (.int .i64 a)), (15, .loc 2 r15 0), (16, .loc 3 r16 0), (17, .val (.slice pd.1 ds.length pd.2)), (19, .val (.pointer (some ⟨r19, 0, none⟩))), (20, .row 5 b ys.length co), (117, .val (.slice pd.1 ds.length pd.2)), (118, .val (.int .i64 ds.length)), (119, .val (.int .i64 i)), (22, .val (.slice pi.1 d.length pi.2)), (23, .row 6 b' zs.length co'), (132, .val (.slice pg.1.1 g.terms.length pg.1.2)), (133, .val (.int .i64 g.terms.length)), (134, .val (.int .i64 j))],
    [(0, some (.cells r4 [.val (.slice q.1 p.rels.length q.2)] 45)), (1, some (.cells r8 [.val (.slice none 0 0)] 45)), (2, some (.cells r15 (vals (g.cs pg)) 30)), (3, some (.cells r16 (vals (q2.cs qq)) 94)), (5, some (.row b co 28 1 ys)), (6, some (.row b' co' 30 4 zs))], 7, μ', Mem.nil⟩) (fun z => g.terms.length - z.1) [] (fun (_, _, _, _, _) => ⟨rfl, rfl⟩)
   ⟨(0, b2, c2, ([] : List Value) ++ (vl.drop 0).take (a - 0), μ5), ⟨Nat.zero_le _, Mem.Le.refl _, by simpa using hy0⟩, ⟨⟨rfl, rfl, rfl, rfl, rfl, rfl, rfl, rfl, rfl, rfl, rfl, rfl, rfl, rfl, rfl, rfl, rfl, rfl, rfl, trivial⟩, ⟨rfl, rfl, rfl, rfl, rfl, rfl, trivial⟩, rfl, rfl⟩⟩ ?_
  clear hy0
  rintro ⟨j, b3, c3, zs, μ6⟩ ⟨hj, hle6, hrows3⟩
  dsimp only at hj hle6 hrows3
  have hzl := hrows3.len
  simp only [List.length_map, List.length_append, List.length_take, eqsG_len] at hzl
  refine ifd (fun hlt3 => ?_) (fun hlt3 => ?_)
  ·have w_ := aSo (l := g.terms) (i := j) (by omega)
   obtain ⟨t, ht⟩ := w_
   have w_ := Tm.elem (hgts.mono (hle5.trans hle6)) ht
   obtain ⟨adt, pt, helt, hrt⟩ := w_
   refine eIn helt ?_
   intro r25
   refine ext_intro [.int .i64 N] rfl (box_at (hle6 _ _ hat5)) ?_
   refine num64 (by omega) (by omega) ?_
   refine cGv (variable_spec _) ?_
   intro r145 r147
   refine gIn ?_ ?_ fun b4 c4 _ => ?_
   ·show (zs.length + 1) * 72 ≤ _; omega
   ·exact Nat.le_trans (m := 100000000) (show zs.length + 1 ≤ _ by omega) (by decide)
   refine num64 (by omega) (by omega) ⟨[8], fun μ7 hle7 hno7 hat7 => ?_⟩
   have hE : RepV μ7 (eqG N j t).d _ := eqG_rep (Rows.sl hat7 (.cons (RepV.mono hle7 (varV_rep (N + j))) (Tm.d_n _) (.cons (RepV.mono hle7 hrt) (Tm.d_n _) .nil)) (show 2 ≤ maxLen by decide))
   refine ⟨(j + 1, b4, c4, _, μ7), ⟨by dsimp only; omega, hle6.trans hle7, ?_⟩, by dsimp only; omega, ⟨⟨rfl, rfl, rfl, rfl, rfl, rfl, rfl, rfl, rfl, rfl, rfl, rfl, rfl, rfl, rfl, rfl, rfl, rfl, rfl, trivial⟩, ⟨rfl, rfl, rfl, rfl, rfl, rfl, trivial⟩, rfl, rfl⟩⟩
   dsimp only
   rw [eqsG_take ht, ← List.append_assoc, List.map_append (l₂ := [eqG N j t])]
   exact (hrows3.mono hle7).append (Rows.one hE (Gl.d_n _))
  obtain rfl : j = g.terms.length := by omega
  rw [List.take_of_length_le (l := eqsG N g.terms) (by rw [eqsG_len]; omega)] at hrows3
  refine lIn (fun z : Nat × Option Nat × Nat × List Value × Mem => z.1 ≤ d.length ∧ μ6.Le z.2.2.2.2 ∧ Rows z.2.2.2.2 4 ((l.take a ++ eqsG N g.terms ++ (d.take z.1).map (Gl.put (shF N))).map Gl.d) z.2.2.2.1)
   (fun (j, b', co', zs, μ') => ⟨[(2, .val (.int .i64 c)), (4, .loc 0 r4 0), (8, .loc 1 r8 0), (11, .val (.int .i64 k)), (12, .val (.slice pv.1 cls.length pv.2)), (14, .val (.int .i64 a)), (15, .loc 2 r15 0), (16, .loc 3 r16 0), (17, .val (.slice pd.1 ds.length pd.2)), (19, .val (.pointer (some ⟨r19, 0, none⟩))), (20, .row 5 b ys.length co), (117, .val (.slice pd.1 ds.length pd.2)), (118, .val (.int .i64 ds.length)), (119, .val (.int .i64 i)), (23, .row 6 b' zs.length co'), (150, .val (.slice pi.1 d.length pi.2)), (151, .val (.int .i64 d.length)), (152, .val (.int .i64 j))],
    [(0, some (.cells r4 [.val (.slice q.1 p.rels.length q.2)] 45)), (1, some (.cells r8 [.val (.slice none 0 0)] 45)), (2, some (.cells r15 (vals (g.cs pg)) 30)), (3, some (.cells r16 (vals (q2.cs qq)) 94)), (5, some (.row b co 28 1 ys)), (6, some (.row b' co' 30 4 zs))], 7, μ', Mem.nil⟩) (fun z => d.length - z.1)
   (0, b3, c3, zs, μ6) ⟨Nat.zero_le _, Mem.Le.refl _, by simpa using hrows3⟩ (fun (_, _, _, _, _) => ⟨rfl, rfl⟩) ⟨⟨rfl, rfl, rfl, rfl, rfl, rfl, rfl, rfl, rfl, rfl, rfl, rfl, rfl, rfl, rfl, rfl, rfl, rfl, trivial⟩, ⟨rfl, rfl, rfl, rfl, rfl, rfl, trivial⟩, rfl, rfl⟩ ?_
  clear hrows3
  rintro ⟨j, b5, c5, ws, μ7⟩ ⟨hj2, hle7, hrows4⟩
  dsimp only at hj2 hle7 hrows4
  have hwl := hrows4.len
  simp only [List.length_map, List.length_append, List.length_take, eqsG_len] at hwl
  refine ifd (fun hlt4 => ?_) (fun hlt4 => ?_)
  ·have w_ := aSo (l := d) (i := j) (by omega)
   obtain ⟨y, hy⟩ := w_
   have w_ := Gl.elem (hds.mono (hle6.trans hle7)) hy
   obtain ⟨ady, py, hely, hry⟩ := w_
   refine eIn hely ?_
   intro r27
   have hyS : y.Sh := hqo.body.all q2.body y (Gl.cl_all q2.body e4 d (mAt hd) y (mAt hy)).1
   refine cPl (goalWith_spec y (unfolded1_maps hN0 ((hle6.trans hle7) _ _ hat5)) hry hyS) fun v8 μ8 hle8 hR8 => ?_
   rw [Gl.withO_all (fun _ => rfl)] at hR8
   obtain ⟨tv, rfl, htv⟩ := hR8
   have w_ := Gl.invV htv.rep
   obtain ⟨q8, rfl⟩ := w_
   intro r28 r164
   refine gIn ?_ ?_ fun b4 c4 _ => ?_
   ·show (ws.length + 1) * 72 ≤ _; omega
   ·exact Nat.le_trans (m := 100000000) (show ws.length + 1 ≤ _ by omega) (by decide)
   refine num64 (by omega) (by omega) ⟨(j + 1, b4, c4, _, μ8), ⟨by dsimp only; omega, hle7.trans hle8, ?_⟩, by dsimp only; omega, ⟨⟨rfl, rfl, rfl, rfl, rfl, rfl, rfl, rfl, rfl, rfl, rfl, rfl, rfl, rfl, rfl, rfl, rfl, rfl, trivial⟩, ⟨rfl, rfl, rfl, rfl, rfl, rfl, trivial⟩, rfl, rfl⟩⟩
   dsimp only
   rw [List.take_add_one, hy, Option.toList_some, List.map_append (f := Gl.put (shF N)), ← List.append_assoc, List.map_append (f := Gl.d)]
   exact (hrows4.mono hle8).append (Rows.one htv.rep (Gl.d_n _))
  obtain rfl : j = d.length := by omega
  rw [List.take_length] at hrows4
  have hle57 := hle5.trans (hle6.trans hle7)
  refine eIn (hell4.mono hle57) ?_
  refine num64 (by omega) (by omega) ?_
  refine cut_intro (a + 1) l.length rfl rfl (by omega) (by omega) ?_
  refine src_intro _ (srcAt_mono (hvls (a + 1) l.length (by omega) (Nat.le_refl _)) hle57) ?_
  refine gIn ?_ ?_ fun b6 c6 _ => ?_
  ·show (ws.length + _) * 72 ≤ _; simp; omega
  ·exact Nat.le_trans (m := 2000000000) (by simp; omega) (by decide)
  have hz0 : Rows μ7 4 ((unfC l a g N d).map Gl.d) (ws ++ (vl.drop (a + 1)).take (l.length - (a + 1))) := by
   have h1 := ((hvl.drop (a + 1)).take (l.length - (a + 1))).mono hle57
   have h2 := hrows4.append h1
   have e5 : ((l.map Gl.d).drop (a + 1)).take (l.length - (a + 1)) = (l.drop (a + 1)).map Gl.d := by
    rw [List.take_of_length_le (by simp), List.map_drop]
   rw [e5, ← List.map_append] at h2
   exact h2
  intro μ8 hle8 hno8 hat8 r177
  refine gIn ?_ ?_ fun b7 c7 _ => ?_
  ·show (ys.length + 1) * 24 ≤ _; omega
  ·exact Nat.le_trans (m := 100000000) (show ys.length + 1 ≤ _ by omega) (by decide)
  have hC : RepV μ8 (csD (unfC l a g N d)) _ := Rows.sl hat8 (hz0.mono hle8) (Nat.le_trans (m := 2000000000) (by simp; omega) (by decide))
  refine num64 (by omega) (by omega) ⟨[], ⟨(i + 1, b7, c7, _, μ8), ⟨by dsimp only; omega, hle57.trans hle8, (hle6.trans (hle7.trans hle8)) _ _ hat5, ?_⟩, by dsimp only; omega, ⟨⟨rfl, rfl, rfl, rfl, rfl, rfl, rfl, rfl, rfl, rfl, rfl, rfl, rfl, rfl, trivial⟩, ⟨rfl, rfl, rfl, rfl, rfl, trivial⟩, rfl, rfl⟩⟩⟩
  dsimp only
  rw [List.take_add_one, hd, Option.toList_some, List.map_append (f := unfC l a g N), ← List.append_assoc, List.map_append (f := csD)]
  exact (hrows.mono ((hle6.trans (hle7.trans hle8)))).append (Rows.one hC rfl)
 obtain rfl : i = ds.length := by omega
 rw [List.take_length] at hrows
 refine num64 (by omega) (by omega) ?_
 refine cut_intro (c + 1) cls.length rfl rfl (by omega) (by omega) ?_
 refine src_intro _ (srcAt_mono (hvcs (c + 1) cls.length (by omega) (Nat.le_refl _)) hle5) ?_
 refine gIn ?_ ?_ fun b8 c8 _ => ?_
 ·show (ys.length + _) * 24 ≤ _; simp; omega
 ·exact Nat.le_trans (m := 2000000000) (by simp; omega) (by decide)
 obtain ⟨X, hXe⟩ : ∃ X : UnfD, X = ⟨k, r, cls, c, l, a, g, q2⟩ := ⟨_, rfl⟩
 rw [← hXe] at hAt
 have hLs : X.ls ds = cls.take c ++ ds.map (unfC l a g N) ++ cls.drop (c + 1) := by rw [hXe, ← hN]; rfl
 have hall0 : Rows μ5 1 ((X.ls ds).map csD) (ys ++ (vc.drop (c + 1)).take (cls.length - (c + 1))) := by
  have h1 := ((hvc.drop (c + 1)).take (cls.length - (c + 1))).mono hle5
  have h2 := hrows.append h1
  have e5 : ((cls.map csD).drop (c + 1)).take (cls.length - (c + 1)) = (cls.drop (c + 1)).map csD := by
   rw [List.take_of_length_le (by simp), List.map_drop]
  rw [e5, ← List.map_append, ← hLs] at h2
  exact h2
 have hLl : (X.ls ds).length ≤ 1000 := by
  rw [hLs]; simp only [List.length_append, List.length_take, List.length_map, List.length_drop]; omega
 have hLc : ∀ z ∈ X.ls ds, z.length ≤ 1000 := fun z hz => by
  rw [hLs] at hz
  rcases List.mem_append.1 hz with hz | hz
  ·rcases List.mem_append.1 hz with hz | hz
   ·have := hbnd.1 z (List.mem_of_mem_take hz); omega
   ·have w_ := List.mem_map.1 hz
    obtain ⟨d, hd, rfl⟩ := w_
    have := hDl d hd
    rw [unfC]
    simp only [List.length_append, List.length_take, List.length_map, List.length_drop, eqsG_len]; omega
  ·have := hbnd.1 z (List.mem_of_mem_drop hz); omega
 have hall0l := hall0.len
 rw [List.length_map] at hall0l
 refine call_frz [5] ?_
 intro μ6 hle6 hno6 hat6
 have hLr6 : Cls μ6 (X.ls ds) _ := Rows.sl hat6 (hall0.mono hle6) (Nat.le_trans (m := 2000000000) (by omega) (by decide))
 have hCG := impl_ClauseGoal_spec (cap := c8) (Cls.sl hLr6).1 (by omega) (fun z hz => by have := hLc z hz; omega)
 rw [hall0l] at hCG
 refine call_go hCG fun v7 μ7 hle7 hR7 => ?_
 have hle07 := hle1.trans (hle14.trans (hle5.trans (hle6.trans hle7)))
 by_cases hok : CgOk (X.ls ds)
 rotate_left
 ·rw [cgO, if_neg hok] at hR7
  obtain rfl := hR7
  intro r30
  refine iIn (fun _ => ?_) (fun h => nomatch h)
  refine rPl ?_
  rw [unfO_bad hAt fun ds' hd => by
   have h1 := hd.1
   rw [hXe] at h1
   rw [show q2.body.cl = some ds' from h1] at e4
   cases e4; exact hok hd.2.1]
  rfl
 rw [cgO, if_pos hok] at hR7
 obtain ⟨tv, rfl, htv⟩ := hR7
 have w_ := Gl.invV htv.rep
 obtain ⟨q7, rfl⟩ := w_
 intro r30
 refine iIn (fun h => nomatch h) (fun _ => ?_)
 have hne : p.rels ≠ [] := fun e => by rw [e] at hr; cases hr
 refine cOw (copyProgram_own (RepV.mono hle07 hp0) hpo hne) fun v8 μ8 H8 hle8 hap8 hR8 => ?_
 obtain ⟨rb, rc, rty, us, rfl, hrow, hgr⟩ := hR8
 have hul := hgr.len
 rw [List.length_map] at hul
 have hkl := (List.getElem?_eq_some_iff.1 hr).1
 intro r32
 refine eIn (helr.mono (hle14.trans (hle5.trans (hle6.trans (hle7.trans hle8))))) ?_
 have hqlo0 := hqo.lo0
 have hqlo8 := hqo.lo8
 have hqar0 := hqo.ar0
 have hqar4 := hqo.ar4
 refine num64 (by omega) (by omega) ?_
 refine num64 (by omega) (by omega) ?_
 have w_ := aSo (l := us) (i := k) (by omega)
 obtain ⟨u, hu⟩ := w_
 have hz : ∀ y ∈ us, (vcells y).length = 7 ∧ ∀ u ∈ vcells y, u.oneCell' = true := by
  obtain ⟨_, _, _, _, hz, _⟩ := hrow
  exact hz
 have w_ := hgr.at hz (k := k) (show (p.rels.map Rl.d)[k]? = some r.d by simp [hr]) hu
 obtain ⟨go, hgo⟩ := w_
 have w_ := Rl.ownR hgo
 obtain ⟨pp, hpp, -⟩ := w_
 obtain ⟨LL, hLL⟩ : ∃ LL : Int, r.locals + q2.arity + q2.locals = LL := ⟨_, rfl⟩
 rw [hLL]
 refine ptr_intro ⟨rb, 0, none⟩ rfl (by omega) (by omega) ?_
 refine sto_row (k := k) (j := 2) (x := u) (.agg #[.string r.name, .int .i64 r.arity, .int .i64 LL, .int .i64 r.body.kind, .string r.body.name, .slice pp.1.1 r.body.terms.length pp.1.2, .slice pp.2.1 r.body.goals.length pp.2.2]) hrow hu (by simp [Addr.add_lit']) (by rw [hpp]; rfl) (show 2 + 1 ≤ 7 by decide) (by simp [Value.oneCell']) fun o1 hrow1 => ?_
 have hap9 := hap8.set (o := o1) (apartB hrow hap8 (.inl rfl))
 have hu1 : (us.set k (Value.agg #[.string r.name, .int .i64 r.arity, .int .i64 LL, .int .i64 r.body.kind, .string r.body.name, .slice pp.1.1 r.body.terms.length pp.1.2, .slice pp.2.1 r.body.goals.length pp.2.2]))[k]? = some _ := List.getElem?_set_self (by omega)
 refine ptr_intro ⟨rb, 0, none⟩ rfl (by omega) (by omega) ?_
 refine sto_row (k := k) (j := 3) (.agg (Value.string r.name :: .int .i64 r.arity :: .int .i64 LL :: (cgG (X.ls ds)).cs q7).toArray) hrow1 hu1 (by simp [Addr.add_lit']) rfl (show 3 + 4 ≤ 7 by decide) (by simp [Value.oneCell']) fun o2 hrow2 => ?_
 have hap10 := hap9.set (o := o2) (apartB hrow1 hap9 (.inl rfl))
 rw [List.set_set] at hrow2
 have hXpg : X.pg p ds = ⟨p.rels.set k ⟨r.name, r.arity, LL, cgG (X.ls ds)⟩⟩ := by rw [UnfD.pg, hXe, ← hLL]
 have hnew : Fresh μ μ7 (Rl.mk r.name r.arity LL (cgG (X.ls ds))).d (.agg (Value.string r.name :: .int .i64 r.arity :: .int .i64 LL :: (cgG (X.ls ds)).cs q7).toArray) := by
  rw [Rl.d_eq]
  have h1 := FreshS.st (FreshS.str (n := r.name) (FreshS.int (n := r.arity) (FreshS.int (n := LL) (FreshS.cons htv hle7 (Mem.Le.refl _) FreshS.nil))))
  exact h1.mono (hle1.trans (hle14.trans (hle5.trans hle6))) (Mem.Le.refl _)
 have hgr2 := hgr.set hz (k := k) (by omega) hnew hle07 hle8 (Rl.d_n _) ⟨rfl, by simp [vcells, Value.oneCell', Gl.cs]⟩
 rw [← List.map_set] at hgr2
 have hrow3 : RowO ((H8.set rb o1).set rb o2) rb rc rty 7 (us.set k (.agg (Value.string r.name :: .int .i64 r.arity :: .int .i64 LL :: (cgG (X.ls ds)).cs q7).toArray)) := hrow2
 have hap11 : Apart μ8 ((H8.set rb o1).set rb o2) := hap10
 generalize hHH : (H8.set rb o1).set rb o2 = HH at hrow3 hap11
 have hb9 : ∀ μ', Apart μ' HH → μ' rb = none := fun μ' k => k.symm rb (by
  obtain ⟨cs, hc, _⟩ := hrow3
  rw [hc]; simp)
 have hF : ∀ μ', μ8.Le μ' → Apart μ' HH → Fresh μ (μ'.join HH) (X.pg p ds).d (.agg #[.slice (some ⟨rb, 0, none⟩) us.length rc]) := fun μ' hl hA => by
  have k := (hgr2.mono hl).fresh (b := some rb) (cap := rc) ((hle07.trans hle8).trans hl) (Mem.le_join μ' HH) (fun r0 hr0 => by cases hr0; exact hb9 μ' hA) (hrow3.rowAt (Mem.le_join_right hA)) hrow3.len
  rw [List.length_set] at k
  rw [hXpg, Pg.d_eq]
  exact (FreshS.st (FreshS.cons k ((hle07.trans hle8).trans (hl.trans (Mem.le_join _ _))) (Mem.Le.refl _) FreshS.nil)).mono (Mem.Le.refl _) (Mem.Le.refl _)
 have hRP := (hF μ8 (Mem.Le.refl _) hap11).rep
 refine cOw (SpecH.lend hap11 (impl_ProgramOk_spec hRP)) fun v9 μ9 H9 hle9 hap12 hR9 => ?_
 obtain ⟨rfl, μ10, rfl, hle10, e9⟩ := hR9
 refine ifnd (fun hbad => ?_) (fun hgood => ?_)
 ·refine rPl ?_
  rw [unfO_bad hAt fun ds' hd => by
   have h1 := hd.1
   rw [hXe] at h1
   rw [show q2.body.cl = some ds' from h1] at e4
   cases e4; exact hbad hd.2.2]
  rfl
 ·refine ret_own _ Mem.nil (Parts.nil_right _) ?_
  have hcl : X.q.body.cl = some ds := by rw [hXe]; exact e4
  rw [unfO_some hAt ⟨hcl, hok, hgood⟩]
  exact ⟨_, rfl, hF μ9 hle9 hap12⟩
end
end Go.Vx
namespace Go.Vx
open Go.Proofs Classical
structure FindAt (p : Pg) (nm : ByteArray) (clause : Int) (k : Nat) (r : Rl) (cls : List (List Gl)) (c : Nat) (l : List Gl) : Prop where
 find : findR p nm = k
 rel : p.rels[k]? = some r
 cl : r.body.cl = some cls
 cc : clause = c
 cls : cls[c]? = some l
theorem rl_body_wd {p : Pg} (hw : p.d.wd) {i : Nat} {r : Rl} (h : p.rels[i]? = some r) : r.d.wd ∧ r.body.d.wd := by
 have h1 : D.wds (p.rels.map Rl.d) := by rw [Pg.d_eq] at hw; exact hw.1
 have h2 := D.wds_mem h1 _ (List.mem_map_of_mem (mAt h))
 refine ⟨h2, ?_⟩
 rw [Rl.d_eq] at h2; exact h2.2.2.2.1
theorem Gl.eta (g : Gl) : g = .mk g.kind g.name g.terms g.goals := by cases g; rfl
theorem Gl.put_congr {f f' : Int → Option T} : ∀ g : Gl, (∀ x ∈ g.all, ∀ t ∈ x.terms, ∀ n ∈ t.toT.vars, f n = f' n) → g.put f = g.put f' :=
 Gl.ind fun g ih h => by
  rw [Gl.eta (g.put f), Gl.eta (g.put f'), Gl.put_kind, Gl.put_kind, Gl.put_name, Gl.put_name, Gl.put_terms, Gl.put_terms, Gl.put_goals, Gl.put_goals]
  congr 1
  ·exact List.map_congr_left fun t ht => by
    rw [T.subst_congrD t.toT fun n hn => by rw [h g (Gl.all_self g) t ht n hn]]
  ·exact List.map_congr_left fun x hx => ih x hx fun y hy => h y (Gl.all_sub hx hy)
theorem Gl.all_thru : ∀ (g : Gl) {x y : Gl}, y ∈ g.all → x ∈ y.all → x ∈ g.all :=
 Gl.ind fun g ih x y hy hx => by
  rw [Gl.all_eq] at hy
  rcases List.mem_cons.1 hy with rfl | hy
  ·exact hx
  ·have w_ := List.mem_flatMap.1 hy
   obtain ⟨z, hz, hy⟩ := w_
   exact Gl.all_sub hz (ih z hz hy hx)
theorem put_sh_vars {p : Pg} {j : Nat} {q2 : Rl} (hqo : RelOk p j q2) {N : Int} (h0 : 0 ≤ N) (h1 : N ≤ 1000) {y : Gl} (hy : y ∈ q2.body.all) : (y.put (shF N)).d.wd := by
 have hl := hqo.lo8
 have ha := hqo.ar4
 have e : y.put (shF N) = y.put fun n => if 0 ≤ n ∧ n ≤ 1000 then some (.var (n + N)) else none := Gl.put_congr y fun x hx t ht n hn => by
  have hxm := Gl.all_thru q2.body hy hx
  have hts := (hqo.body.all q2.body x hxm).top.tm t ht
  have w_ := hts.lift
  obtain ⟨z, hz, rfl⟩ := w_
  have h2 := hqo.vars n (List.mem_flatMap.2 ⟨x, hxm, by rw [Gl.tvars]; exact List.mem_flatMap.2 ⟨_, List.mem_map_of_mem ht, hn⟩⟩)
  rw [T.toT_tm] at hn
  have h3 := (T.good_vars hz.1 n hn).1
  rw [shF, if_pos ⟨h3, by omega⟩]
 rw [e]
 refine Gl.put_Sh_wd (fun n z hz => ?_) (hqo.body.all q2.body y hy)
 split at hz
 ·cases hz
  show 0 ≤ n + N ∧ n + N ≤ 100000
  omega
 ·cases hz
theorem eqG_wd {N : Int} (h0 : 0 ≤ N) (h1 : N ≤ 1000) {i : Nat} (hi : i ≤ 1000) {t : Tm} (ht : t.d.wd) : (eqG N i t).d.wd := by
 refine Gl.wd_mk ⟨show (-9223372036854775808 : Int) ≤ 2 by decide, show (2 : Int) ≤ 9223372036854775807 by decide⟩ (Nat.zero_le _) (fun x hx => ?_) fun x hx => absurd hx List.not_mem_nil
 rcases List.mem_cons.1 (show x ∈ [(T.var (N + i)).tm, t] from hx) with rfl | hx
 ·exact T.good_wd (x := T.var (N + i)) ⟨by omega, by omega⟩
 ·rw [List.mem_singleton.1 hx]; exact ht
theorem unf_wd {p : Pg} {k j : Nat} {r q2 : Rl} {cls ds L : List (List Gl)} {c a : Nat} {l : List Gl} {g : Gl} {N : Int} (hw : p.d.wd) (hr : p.rels[k]? = some r) (e : r.body.cl = some cls) (hl : cls[c]? = some l) (hg : l[a]? = some g) (_hq2 : p.rels[j]? = some q2) (hqo : RelOk p j q2) (h0 : 0 ≤ N) (h1 : N ≤ 1000)
  (hLs : L = cls.take c ++ ds.map (unfC l a g N) ++ cls.drop (c + 1)) (hD : ∀ d ∈ ds, ∀ y ∈ d, y ∈ q2.body.all) (hg4 : g.terms.length ≤ 1000) : ∀ z ∈ L, ∀ y ∈ z, y.d.wd := fun z hz y hy => by
 have hbw := Gl.all_wd r.body (rl_body_wd hw hr).2
 have hcls : ∀ z ∈ cls, ∀ y ∈ z, y.d.wd := fun z hz y hy => hbw y (Gl.cl_all r.body e z hz y hy).1
 rw [hLs] at hz
 rcases List.mem_append.1 hz with hz | hz
 ·rcases List.mem_append.1 hz with hz | hz
  ·exact hcls z (List.mem_of_mem_take hz) y hy
  ·have w_ := List.mem_map.1 hz
   obtain ⟨d, hd, rfl⟩ := w_
   rw [unfC] at hy
   rcases List.mem_append.1 hy with hy | hy
   ·rcases List.mem_append.1 hy with hy | hy
    ·rcases List.mem_append.1 hy with hy | hy
     ·exact hcls l (mAt hl) y (List.mem_of_mem_take hy)
     ·have w_ := List.mem_iff_getElem?.1 hy
      obtain ⟨i, hi⟩ := w_
      rw [eqsG, List.getElem?_mapIdx] at hi
      have w_ := Option.map_eq_some_iff.1 hi
      obtain ⟨t, ht, rfl⟩ := w_
      have hil := (List.getElem?_eq_some_iff.1 ht).1
      exact eqG_wd h0 h1 (by omega) ((Gl.wd_at (hcls l (mAt hl) g (mAt hg))).2.2.1 t (mAt ht))
    ·have w_ := List.mem_map.1 hy
     obtain ⟨y', hy', rfl⟩ := w_
     exact put_sh_vars hqo h0 h1 (hD d hd y' hy')
   ·exact hcls l (mAt hl) y (List.mem_of_mem_drop hy)
 ·exact hcls z (List.mem_of_mem_drop hz) y hy
section
variable {μ : Mem}
set_option maxHeartbeats 2000000 in
theorem l33Find_spec {p : Pg} {nm : ByteArray} {clause call : Int} {v : Value} (hp : RepV μ p.d v) (hw : p.d.wd) (hc0 : InR clause) :
  Spec Tryz.prog 81 [v, .string nm, .int .i64 clause, .int .i64 call] μ fun v μ' => (∃ k r cls c l tv, FindAt p nm clause k r cls c l ∧ p.Ok ∧ v = .tuple #[tv, .int .i64 (callI l call), .bool (decide (0 ≤ callI l call))] ∧ Cls μ' cls tv) ∨ ((∀ x, ¬ UnfAt p nm clause call x) ∧ v = .tuple #[.slice none 0 0, .int .i64 0, .bool false]) := by
 have hp0 := hp
 have w_ := Pg.inv hp
 obtain ⟨q, rfl, hrl⟩ := w_
 refine Spec.mk Tryz.func81 (by kernel_rfl) ?_
 intro r4
 refine cPl (spec_FindRel_spec hp0 hw) fun v1 μ1 hle1 hR => ?_
 obtain rfl := hR
 refine ifd (fun h => ?_) (fun h => ?_)
 ·refine rPl (.inr ⟨fun x hx => by have := hx.find; omega, rfl⟩)
 have w_ := Int.eq_ofNat_of_zero_le (show 0 ≤ findR p nm by omega)
 obtain ⟨k, hk⟩ := w_
 have hpo : p.Ok := Classical.byContradiction fun e => by rw [findR, if_neg e] at h; exact h (by decide)
 have hfind : findR p nm = relAt p nm := by rw [findR, if_pos hpo]
 have w_ := relAt_get (p := p) (s := nm) (by omega)
 obtain ⟨k', r, hk', hr, -⟩ := w_
 obtain rfl : k = k' := by omega
 have hro := hpo.2 _ r hr
 have w_ := Rl.elemA (hrl.mono hle1) hr
 obtain ⟨adr, qr, helr, hrr, hbody⟩ := w_
 have hbody : RepV μ1 r.body.d (.agg (r.body.cs qr).toArray) := hbody
 have hX : ∀ x, UnfAt p nm clause call x → x.k = k ∧ x.r = r := fun x hx => by
  have h1 := hx.find
  have h2 : x.k = k := by omega
  have h3 := hx.rel
  rw [h2, hr] at h3
  exact ⟨h2, (Option.some.inj h3).symm⟩
 rw [hk]
 refine eIn helr ?_
 refine cPl (ClausesOf_spec hbody (rl_body_wd hw hr).2 ⟨hro.body, by have := hro.size; omega⟩) fun v2 μ2 hle2 hR2 => ?_
 obtain ⟨o2, e⟩ : ∃ o, r.body.cl = o := ⟨_, rfl⟩
 rw [e] at hR2
 match o2, e, hR2 with
 | none, e, hR2 =>
  obtain rfl := hR2
  refine iIn (fun _ => ?_) (fun h => nomatch h)
  refine rPl (.inr ⟨fun x hx => (by have h1 := hx.cl; rw [(hX x hx).2, e] at h1; cases h1), rfl⟩)
 | some cls, e, hR2 =>
 obtain ⟨tv, rfl, hLr⟩ := hR2
 obtain ⟨pv, rfl⟩ := hLr.inv
 have hXc : ∀ x, UnfAt p nm clause call x → x.cls = cls := fun x hx => by
  have h1 := hx.cl
  rw [(hX x hx).2, e] at h1
  exact (Option.some.inj h1).symm
 refine iIn (fun h => nomatch h) (fun _ => ?_)
 have hcll := (Gl.cl_bnd r.body e).2
 refine num64 (by omega) (by omega) ?_
 refine cGv (l01In_spec _ _ _ _) ?_
 refine ifnd (fun h1 => ?_) (fun h1 => ?_)
 ·refine rPl (.inr ⟨fun x hx => ?_, rfl⟩)
  have h3 := hx.cc
  have h4 := (List.getElem?_eq_some_iff.1 hx.cls).1
  rw [hXc x hx] at h4; omega
 have w_ := Int.eq_ofNat_of_zero_le (show 0 ≤ clause by omega)
 obtain ⟨c, rfl⟩ := w_
 have w_ := aSo (l := cls) (i := c) (by omega)
 obtain ⟨l, hl⟩ := w_
 have hsl := (Cls.sl hLr).1
 have w_ := cls_elem hsl hl
 obtain ⟨adl, pl, hell, hrll⟩ := w_
 have hls := csD_sl hrll
 have hll := (Gl.cl_bnd r.body e).1 l (mAt hl)
 have hsz := hro.size
 refine eIn hell ?_
 refine cPl (l33At_spec (call := call) hls (by omega)) fun v3 μ3 hle3 hR3 => ?_
 obtain ⟨rfl, e3⟩ := hR3
 obtain rfl := e3.symm
 exact rPl (.inl ⟨k, r, cls, c, l, _, ⟨hk, hr, e, rfl, hl⟩, hpo, rfl, hLr⟩)
set_option maxHeartbeats 4000000 in
set_option maxRecDepth 20000 in
theorem spec_UnfoldCall_spec {p : Pg} {nm : ByteArray} {clause call : Int} {v : Value} (hp : RepV μ p.d v) (hw : p.d.wd) (hc0 : InR clause) :
  Spec Tryz.prog 27 [v, .string nm, .int .i64 clause, .int .i64 call] μ fun v μ' => optP (fun y tv => RepV μ' y.d tv) ((unfO p nm clause call).map Prod.fst) v := by
 have hp0 := hp
 have w_ := Pg.inv hp
 obtain ⟨q, rfl, hrl⟩ := w_
 refine Spec.mk Tryz.func27 (by kernel_rfl) ?_
 intro r4 r8
 refine cPl (l33Find_spec (call := call) hp0 hw hc0) fun v1 μ1 hle1 hR => ?_
 rcases hR with ⟨k, r, cls, c, l, tv, hF, hpo, rfl, hLr⟩ | ⟨hno, rfl⟩
 rotate_left
 ·refine iIn (fun _ => ?_) (fun h => nomatch h)
  refine rPl ?_
  rw [unfO_none hno]; rfl
 obtain ⟨hk, hr, e, rfl, hl⟩ := hF
 obtain ⟨pv, rfl⟩ := hLr.inv
 have hX : ∀ x, UnfAt p nm c call x → x.l = l := fun x hx => by
  have h1 := hx.find
  have h2 : x.k = k := by omega
  have h3 := hx.rel
  rw [h2, hr] at h3
  have h4 := hx.cl
  rw [← Option.some.inj h3, e] at h4
  have h5 := hx.cls
  rw [← Option.some.inj h4, show x.c = c by have := hx.cc; omega, hl] at h5
  exact (Option.some.inj h5).symm
 refine ifnd (fun hneg => ?_) (fun hpos => ?_)
 ·refine rPl ?_
  rw [unfO_none fun x hx => by
   have h1 := hx.pos
   have h2 := hx.call0
   rw [hX x hx] at h1
   apply hneg
   rw [callI, if_neg (by omega), h1]
   exact Int.natCast_nonneg _]
  rfl
 have hcall : 0 ≤ call := by
  refine Classical.byContradiction fun h => ?_
  rw [callI, if_pos (by omega)] at hpos
  exact absurd hpos (by decide)
 have w_ := Int.eq_ofNat_of_zero_le hcall
 obtain ⟨kc, rfl⟩ := w_
 obtain ⟨oa, ea⟩ : ∃ o, callIdx l kc = o := ⟨_, rfl⟩
 have hcI : callI l kc = placeI oa := by rw [callI, if_neg (by omega), Int.toNat_natCast, ea]
 match oa, ea, hcI with
 | none, ea, hcI => rw [hcI] at hpos; exact absurd hpos (by decide)
 | some a, ea, hcI =>
 rw [show callI l kc = (a : Int) from hcI]
 have hro := hpo.2 _ r hr
 have har0 := hro.ar0
 have har4 := hro.ar4
 have hlo0 := hro.lo0
 have hlo8 := hro.lo8
 have hfind : findR p nm = relAt p nm := by rw [findR, if_pos hpo]
 refine cGv (l14Find_spec (s := nm) (hp0.mono hle1)) ?_
 rw [show relAt p nm = (k : Int) by omega]
 have hsl := (Cls.sl hLr).1
 have w_ := cls_elem hsl hl
 obtain ⟨adl, pl, hell, hrll⟩ := w_
 have hls := csD_sl hrll
 have hbnd := Gl.cl_bnd r.body e
 have hsz := hro.size
 have hll := hbnd.1 l (mAt hl)
 have hcll := hbnd.2
 have hcl := (List.getElem?_eq_some_iff.1 hl).1
 refine eIn hell ?_
 have w_ := callIdx_at ea
 obtain ⟨g, hg, h9⟩ := w_
 have w_ := Gl.elem hls hg
 obtain ⟨adg, pg, helg, hrg⟩ := w_
 have hal := (List.getElem?_eq_some_iff.1 hg).1
 have hgm : g ∈ r.body.all := (Gl.cl_all r.body e l (mAt hl) g (mAt hg)).1
 have w_ := hro.calls.all g hgm h9
 obtain ⟨j, q2, hj, hq2, harq⟩ := w_
 refine eIn helg ?_
 refine cGv (l14Find_spec (s := g.name) (hp0.mono hle1)) ?_
 rw [hj]
 have w_ := Rl.elemA (hrl.mono hle1) hq2
 obtain ⟨adq, qq, helq, hrq, hbodyq⟩ := w_
 have hbodyq : RepV μ1 q2.body.d (.agg (q2.body.cs qq).toArray) := hbodyq
 have hqo := hpo.2 _ q2 hq2
 refine eIn helq ?_
 intro r15
 have w_ := Rl.elemA (hrl.mono hle1) hr
 obtain ⟨adr, qr, helr, hrr, hbody⟩ := w_
 refine eIn helr ?_
 refine eIn helr ?_
 refine num64 (by omega) (by omega) ?_
 obtain ⟨N, hN⟩ : ∃ N : Int, r.arity + r.locals = N := ⟨_, rfl⟩
 rw [hN]
 have hN0 : 0 ≤ N ∧ N ≤ 1000 := by omega
 have hAt : UnfAt p nm c kc ⟨k, r, cls, c, l, a, g, q2⟩ := ⟨hk, hr, e, rfl, hl, by omega, by rw [Int.toNat_natCast]; exact ea, hg, j, hj, hq2⟩
 refine cPl (ClausesOf_spec hbodyq (rl_body_wd hw hq2).2 ⟨hqo.body, by have := hqo.size; omega⟩) fun v4 μ4 hle4 hR4 => ?_
 obtain ⟨ds, gd, tv, rfl, hDr, hgd, hDb⟩ : ∃ ds gd tv, v4 = .tuple #[tv, .bool gd] ∧ Cls μ4 ds tv ∧ ((gd = true ∧ q2.body.cl = some ds) ∨ (gd = false ∧ q2.body.cl = none)) ∧ ((∀ c ∈ ds, c.length ≤ 60 ∧ ∀ x ∈ c, x ∈ q2.body.all) ∧ ds.length ≤ 64) := by
  have hqsz := hqo.size
  cases e4 : q2.body.cl with
  | none =>
   rw [e4] at hR4
   exact ⟨[], false, _, hR4, ⟨none, 0, rfl, ⟨Nat.zero_le _, Nat.zero_le _⟩, (fun _ h => nomatch h), .inl rfl⟩, .inr ⟨rfl, rfl⟩, (fun c h => absurd h (List.not_mem_nil)), Nat.zero_le _⟩
  | some ds =>
   rw [e4] at hR4
   obtain ⟨tv, h1, h2⟩ := hR4
   have hb := Gl.cl_bnd q2.body e4
   exact ⟨ds, true, tv, h1, h2, .inl ⟨rfl, rfl⟩, fun c hc => ⟨by have := hb.1 c hc; omega, fun x hx => (Gl.cl_all q2.body e4 c hc x hx).1⟩, hb.2⟩
 obtain ⟨pd, rfl⟩ := hDr.inv
 have hDm := hDb.2
 have hLr4 := RepV.mono hle4 hLr
 have hell4 := hell.mono hle4
 have hrll4 := RepV.mono hle4 hrll
 have hrg4 := RepV.mono hle4 hrg
 have helg4 := helg.mono hle4
 have w_ := Rep.src hLr4
 obtain ⟨vc, hvc, hvcl, hvcc, hvcs⟩ := w_
 have w_ := Rep.src (ds := l.map Gl.d) hrll4
 obtain ⟨vl, hvl, hvll, hvlc, hvls⟩ := w_
 have hgT := Gl.termsW hrg4
 have hgts : Sl μ4 4 pg.1.1 g.terms.length (g.terms.map Tm.d) := by
  have w_ := Rep.sl (xs := g.terms.map Tm.d) hgT
  obtain ⟨b', c', e1, hs⟩ := w_
  have w_ := Value.slice.inj e1
  obtain ⟨rfl, _, _⟩ := w_
  simpa using hs
 have hSg : g.Sh := hro.body.all r.body g hgm
 have hg4 := hSg.lens
 intro r82
 refine cut_intro 0 c rfl rfl (by omega) (by omega) ?_
 refine src_intro _ (hvcs 0 c (by omega) (by omega)) ?_
 refine gIn ?_ ?_ fun b1 c1 _ => ?_
 ·show (0 + _) * 24 ≤ _; simp; omega
 ·exact Nat.le_trans (m := 2000000000) (by simp; omega) (by decide)
 have hx0 : Rows μ4 1 ((cls.take c).map csD) (([] : List Value) ++ (vc.drop 0).take (c - 0)) := by
  have := (hvc.drop 0).take (c - 0)
  simpa [List.map_take] using this
 refine lIn (fun z : Nat × Option Nat × Nat × List Value × Mem => z.1 ≤ ds.length ∧ μ4.Le z.2.2.2.2 ∧ Rows z.2.2.2.2 1 ((cls.take c ++ (ds.take z.1).map (unfC l a g N)).map csD) z.2.2.2.1)
  (fun (i, b, co, ys, μ') => ⟨[(2, .val (.int .i64 c)), (4, .loc 0 r4 0), (8, .loc 1 r8 0), (10, .val (.slice pv.1 cls.length pv.2)), (11, .val (.int .i64 a)), (13, .val (.int .i64 k)), (14, .val (.slice pl.1 l.length pl.2)), (15, .loc 2 r15 0), (16, .val (.int .i64 N)), (18, .val (.bool gd)), (19, .row 3 b ys.length co), (87, .val (.slice pd.1 ds.length pd.2)), (88, .val (.int .i64 ds.length)), (89, .val (.int .i64 i))],
   [(0, some (.cells r4 [.val (.slice q.1 p.rels.length q.2)] 45)), (1, some (.cells r8 [.val (.slice none 0 0)] 45)), (2, some (.cells r15 (vals (q2.cs qq)) 94)), (3, some (.row b co 28 1 ys))], 4, μ', Mem.nil⟩) (fun z => ds.length - z.1)
  (0, b1, c1, ([] : List Value) ++ (vc.drop 0).take (c - 0), μ4) ⟨Nat.zero_le _, Mem.Le.refl _, by simpa using hx0⟩ (fun (_, _, _, _, _) => ⟨rfl, rfl⟩) ⟨⟨rfl, rfl, rfl, rfl, rfl, rfl, rfl, rfl, rfl, rfl, rfl, rfl, rfl, rfl, trivial⟩, ⟨rfl, rfl, rfl, rfl, trivial⟩, rfl, rfl⟩ ?_
 rintro ⟨i, b, co, ys, μ5⟩ ⟨hi, hle5, hrows⟩
 dsimp only at hi hle5 hrows
 have hyl := hrows.len
 simp only [List.length_map, List.length_append, List.length_take] at hyl
 refine ifd (fun hlt => ?_) (fun hlt => ?_)
 ·have w_ := aSo (l := ds) (i := i) (by omega)
  obtain ⟨d, hd⟩ := w_
  have w_ := cls_elem ((Cls.sl hDr).1.mono hle5) hd
  obtain ⟨adi, pi, heli, hri⟩ := w_
  have hdl := (hDb.1 d (mAt hd)).1
  have hds := csD_sl hri
  refine eIn heli ?_
  intro r93
  refine cut_intro 0 a rfl rfl (by omega) (by omega) ?_
  refine src_intro _ (srcAt_mono (hvls 0 a (by omega) (by omega)) hle5) ?_
  refine gIn ?_ ?_ fun b2 c2 _ => ?_
  ·show (0 + _) * 72 ≤ _; simp; omega
  ·exact Nat.le_trans (m := 2000000000) (by simp; omega) (by decide)
  have hy0 : Rows μ5 4 ((l.take a).map Gl.d) (([] : List Value) ++ (vl.drop 0).take (a - 0)) := by
   have := (hvl.drop 0).take (a - 0)
   simpa [List.map_take] using this.mono hle5
  refine eIn (helg4.mono hle5) ?_
  refine lIn (fun z : Nat × Option Nat × Nat × List Value × Mem => z.1 ≤ g.terms.length ∧ μ5.Le z.2.2.2.2 ∧ Rows z.2.2.2.2 4 ((l.take a ++ (eqsG N g.terms).take z.1).map Gl.d) z.2.2.2.1)
   (fun (j, b', co', zs, μ') => ⟨[(2, .val (.int .i64 c)), (4, .loc 0 r4 0), (8, .loc 1 r8 0), (10, .val (.slice pv.1 cls.length pv.2)), (11, .val (.int .i64 a)), (13, .val (.int .i64 k)), (14, .val (.slice pl.1 l.length pl.2)), (15, .loc 2 r15 0), (16, .val (.int .i64 N)), (18, .val (.bool gd)), (19, .row 3 b ys.length co), (87, .val (.slice pd.1 ds.length pd.2)), (88, .val (.int .i64 ds.length)), (89, .val (.int .i64 i)), (21, .val (.slice pi.1 d.length pi.2)), (22, .row 4 b' zs.length co'), (102, .val (.slice pg.1.1 g.terms.length pg.1.2)), (103, .val (.int .i64 g.terms.length)), (104, .val (.int .i64 j))],
    [(0, some (.cells r4 [.val (.slice q.1 p.rels.length q.2)] 45)), (1, some (.cells r8 [.val (.slice none 0 0)] 45)), (2, some (.cells r15 (vals (q2.cs qq)) 94)), (3, some (.row b co 28 1 ys)), (4, some (.row b' co' 30 4 zs))], 5, μ', Mem.nil⟩) (fun z => g.terms.length - z.1)
   (0, b2, c2, ([] : List Value) ++ (vl.drop 0).take (a - 0), μ5) ⟨Nat.zero_le _, Mem.Le.refl _, by simpa using hy0⟩ (fun (_, _, _, _, _) => ⟨rfl, rfl⟩) ⟨⟨rfl, rfl, rfl, rfl, rfl, rfl, rfl, rfl, rfl, rfl, rfl, rfl, rfl, rfl, rfl, rfl, rfl, rfl, rfl, trivial⟩, ⟨rfl, rfl, rfl, rfl, rfl, trivial⟩, rfl, rfl⟩ ?_
  clear hy0
  rintro ⟨j, b3, c3, zs, μ6⟩ ⟨hj, hle6, hrows3⟩
  dsimp only at hj hle6 hrows3
  have hzl := hrows3.len
  simp only [List.length_map, List.length_append, List.length_take, eqsG_len] at hzl
  refine ifd (fun hlt3 => ?_) (fun hlt3 => ?_)
  ·have w_ := aSo (l := g.terms) (i := j) (by omega)
   obtain ⟨t, ht⟩ := w_
   have w_ := Tm.elem (hgts.mono (hle5.trans hle6)) ht
   obtain ⟨adt, pt, helt, hrt⟩ := w_
   refine eIn helt ?_
   intro r24
   refine num64 (by omega) (by omega) ?_
   refine cGv (l02Var_spec _) ?_
   intro r115
   refine call_frz [6] ?_
   intro μ7 hle7 hno7 hat7
   refine call_go (l13Make_spec (a := (some ⟨r115, 0, none⟩, 2, 2)) (b := (none, 0, 0))) fun v8 μ8 hle8 hR8 => ?_
   obtain ⟨rfl, e8⟩ := hR8
   obtain rfl := e8.symm
   intro r117
   refine gIn ?_ ?_ fun b4 c4 _ => ?_
   ·show (zs.length + 1) * 72 ≤ _; omega
   ·exact Nat.le_trans (m := 100000000) (show zs.length + 1 ≤ _ by omega) (by decide)
   have hE : RepV μ7 (eqG N j t).d _ := eqG_rep (Rows.sl hat7 (.cons (RepV.mono hle7 (varV_rep (N + j))) (Tm.d_n _) (.cons (RepV.mono hle7 hrt) (Tm.d_n _) .nil)) (show 2 ≤ maxLen by decide))
   refine num64 (by omega) (by omega) ⟨(j + 1, b4, c4, _, μ7), ⟨by dsimp only; omega, hle6.trans hle7, ?_⟩, by dsimp only; omega, ⟨⟨rfl, rfl, rfl, rfl, rfl, rfl, rfl, rfl, rfl, rfl, rfl, rfl, rfl, rfl, rfl, rfl, rfl, rfl, rfl, trivial⟩, ⟨rfl, rfl, rfl, rfl, rfl, trivial⟩, rfl, rfl⟩⟩
   dsimp only
   rw [eqsG_take ht, ← List.append_assoc, List.map_append (l₂ := [eqG N j t])]
   exact (hrows3.mono hle7).append (Rows.one hE (Gl.d_n _))
  obtain rfl : j = g.terms.length := by omega
  rw [List.take_of_length_le (l := eqsG N g.terms) (by rw [eqsG_len]; omega)] at hrows3
  refine lIn (fun z : Nat × Option Nat × Nat × List Value × Mem => z.1 ≤ d.length ∧ μ6.Le z.2.2.2.2 ∧ Rows z.2.2.2.2 4 ((l.take a ++ eqsG N g.terms ++ (d.take z.1).map (Gl.put (shF N))).map Gl.d) z.2.2.2.1)
   (fun (j, b', co', zs, μ') => ⟨[(2, .val (.int .i64 c)), (4, .loc 0 r4 0), (8, .loc 1 r8 0), (10, .val (.slice pv.1 cls.length pv.2)), (11, .val (.int .i64 a)), (13, .val (.int .i64 k)), (14, .val (.slice pl.1 l.length pl.2)), (15, .loc 2 r15 0), (16, .val (.int .i64 N)), (18, .val (.bool gd)), (19, .row 3 b ys.length co), (87, .val (.slice pd.1 ds.length pd.2)), (88, .val (.int .i64 ds.length)), (89, .val (.int .i64 i)), (22, .row 4 b' zs.length co'), (120, .val (.slice pi.1 d.length pi.2)), (121, .val (.int .i64 d.length)), (122, .val (.int .i64 j))],
    [(0, some (.cells r4 [.val (.slice q.1 p.rels.length q.2)] 45)), (1, some (.cells r8 [.val (.slice none 0 0)] 45)), (2, some (.cells r15 (vals (q2.cs qq)) 94)), (3, some (.row b co 28 1 ys)), (4, some (.row b' co' 30 4 zs))], 5, μ', Mem.nil⟩) (fun z => d.length - z.1)
   (0, b3, c3, zs, μ6) ⟨Nat.zero_le _, Mem.Le.refl _, by simpa using hrows3⟩ (fun (_, _, _, _, _) => ⟨rfl, rfl⟩) ⟨⟨rfl, rfl, rfl, rfl, rfl, rfl, rfl, rfl, rfl, rfl, rfl, rfl, rfl, rfl, rfl, rfl, rfl, rfl, trivial⟩, ⟨rfl, rfl, rfl, rfl, rfl, trivial⟩, rfl, rfl⟩ ?_
  clear hrows3
  rintro ⟨j, b5, c5, ws, μ7⟩ ⟨hj2, hle7, hrows4⟩
  dsimp only at hj2 hle7 hrows4
  have hwl := hrows4.len
  simp only [List.length_map, List.length_append, List.length_take, eqsG_len] at hwl
  refine ifd (fun hlt4 => ?_) (fun hlt4 => ?_)
  ·have w_ := aSo (l := d) (i := j) (by omega)
   obtain ⟨y, hy⟩ := w_
   have w_ := Gl.elem (hds.mono (hle6.trans hle7)) hy
   obtain ⟨ady, py, hely, hry⟩ := w_
   refine eIn hely ?_
   intro r26
   have hyS : y.Sh := hqo.body.all q2.body y ((hDb.1 d (mAt hd)).2 y (mAt hy))
   refine cPl (l14Shift_spec hN0 y hry hyS) fun v8 μ8 hle8 hR8 => ?_
   have w_ := Gl.invV hR8
   obtain ⟨q8, rfl⟩ := w_
   intro r130
   refine gIn ?_ ?_ fun b4 c4 _ => ?_
   ·show (ws.length + 1) * 72 ≤ _; omega
   ·exact Nat.le_trans (m := 100000000) (show ws.length + 1 ≤ _ by omega) (by decide)
   refine num64 (by omega) (by omega) ⟨(j + 1, b4, c4, _, μ8), ⟨by dsimp only; omega, hle7.trans hle8, ?_⟩, by dsimp only; omega, ⟨⟨rfl, rfl, rfl, rfl, rfl, rfl, rfl, rfl, rfl, rfl, rfl, rfl, rfl, rfl, rfl, rfl, rfl, rfl, trivial⟩, ⟨rfl, rfl, rfl, rfl, rfl, trivial⟩, rfl, rfl⟩⟩
   dsimp only
   rw [List.take_add_one, hy, Option.toList_some, List.map_append (f := Gl.put (shF N)), ← List.append_assoc, List.map_append (f := Gl.d)]
   exact (hrows4.mono hle8).append (Rows.one hR8 (Gl.d_n _))
  obtain rfl : j = d.length := by omega
  rw [List.take_length] at hrows4
  have hle57 := hle5.trans (hle6.trans hle7)
  refine num64 (by omega) (by omega) ?_
  refine cut_intro (a + 1) l.length rfl rfl (by omega) (by omega) ?_
  refine src_intro _ (srcAt_mono (hvls (a + 1) l.length (by omega) (Nat.le_refl _)) hle57) ?_
  refine gIn ?_ ?_ fun b6 c6 _ => ?_
  ·show (ws.length + _) * 72 ≤ _; simp; omega
  ·exact Nat.le_trans (m := 2000000000) (by simp; omega) (by decide)
  have hz0 : Rows μ7 4 ((unfC l a g N d).map Gl.d) (ws ++ (vl.drop (a + 1)).take (l.length - (a + 1))) := by
   have h1 := ((hvl.drop (a + 1)).take (l.length - (a + 1))).mono hle57
   have h2 := hrows4.append h1
   have e5 : ((l.map Gl.d).drop (a + 1)).take (l.length - (a + 1)) = (l.drop (a + 1)).map Gl.d := by
    rw [List.take_of_length_le (by simp), List.map_drop]
   rw [e5, ← List.map_append] at h2
   exact h2
  intro μ8 hle8 hno8 hat8 r140
  refine gIn ?_ ?_ fun b7 c7 _ => ?_
  ·show (ys.length + 1) * 24 ≤ _; omega
  ·exact Nat.le_trans (m := 100000000) (show ys.length + 1 ≤ _ by omega) (by decide)
  have hC : RepV μ8 (csD (unfC l a g N d)) _ := Rows.sl hat8 (hz0.mono hle8) (Nat.le_trans (m := 2000000000) (by simp; omega) (by decide))
  refine num64 (by omega) (by omega) ⟨(i + 1, b7, c7, _, μ8), ⟨by dsimp only; omega, hle57.trans hle8, ?_⟩, by dsimp only; omega, ⟨⟨rfl, rfl, rfl, rfl, rfl, rfl, rfl, rfl, rfl, rfl, rfl, rfl, rfl, rfl, trivial⟩, ⟨rfl, rfl, rfl, rfl, trivial⟩, rfl, rfl⟩⟩
  dsimp only
  rw [List.take_add_one, hd, Option.toList_some, List.map_append (f := unfC l a g N), ← List.append_assoc, List.map_append (f := csD)]
  exact (hrows.mono ((hle6.trans (hle7.trans hle8)))).append (Rows.one hC rfl)
 obtain rfl : i = ds.length := by omega
 rw [List.take_length] at hrows
 refine num64 (by omega) (by omega) ?_
 refine cut_intro (c + 1) cls.length rfl rfl (by omega) (by omega) ?_
 refine src_intro _ (srcAt_mono (hvcs (c + 1) cls.length (by omega) (Nat.le_refl _)) hle5) ?_
 refine gIn ?_ ?_ fun b8 c8 _ => ?_
 ·show (ys.length + _) * 24 ≤ _; simp; omega
 ·exact Nat.le_trans (m := 2000000000) (by simp; omega) (by decide)
 obtain ⟨X, hXe⟩ : ∃ X : UnfD, X = ⟨k, r, cls, c, l, a, g, q2⟩ := ⟨_, rfl⟩
 rw [← hXe] at hAt
 have hLs : X.ls ds = cls.take c ++ ds.map (unfC l a g N) ++ cls.drop (c + 1) := by rw [hXe, ← hN]; rfl
 have hall0 : Rows μ5 1 ((X.ls ds).map csD) (ys ++ (vc.drop (c + 1)).take (cls.length - (c + 1))) := by
  have h1 := ((hvc.drop (c + 1)).take (cls.length - (c + 1))).mono hle5
  have h2 := hrows.append h1
  have e5 : ((cls.map csD).drop (c + 1)).take (cls.length - (c + 1)) = (cls.drop (c + 1)).map csD := by
   rw [List.take_of_length_le (by simp), List.map_drop]
  rw [e5, ← List.map_append, ← hLs] at h2
  exact h2
 have hLl : (X.ls ds).length ≤ 1000 := by
  rw [hLs]; simp only [List.length_append, List.length_take, List.length_map, List.length_drop]; omega
 have hLc : ∀ z ∈ X.ls ds, z.length ≤ 1000 := fun z hz => by
  rw [hLs] at hz
  rcases List.mem_append.1 hz with hz | hz
  ·rcases List.mem_append.1 hz with hz | hz
   ·have := hbnd.1 z (List.mem_of_mem_take hz); omega
   ·have w_ := List.mem_map.1 hz
    obtain ⟨d, hd, rfl⟩ := w_
    have := (hDb.1 d hd).1
    rw [unfC]
    simp only [List.length_append, List.length_take, List.length_map, List.length_drop, eqsG_len]; omega
  ·have := hbnd.1 z (List.mem_of_mem_drop hz); omega
 have hLw : ∀ z ∈ X.ls ds, ∀ y ∈ z, y.d.wd := unf_wd hw hr e hl hg hq2 hqo (by omega) (by omega) hLs (fun d hd y hy => (hDb.1 d hd).2 y hy) (by omega)
 have hall0l := hall0.len
 rw [List.length_map] at hall0l
 refine call_frz [3] ?_
 intro μ6 hle6 hno6 hat6
 have hLr6 : Cls μ6 (X.ls ds) _ := Rows.sl hat6 (hall0.mono hle6) (Nat.le_trans (m := 2000000000) (by omega) (by decide))
 have hCG := spec_ClauseGoal_spec (cap := c8) (Cls.sl hLr6).1 hLw (by omega) (fun z hz => by have := hLc z hz; omega)
 rw [hall0l] at hCG
 refine call_go hCG fun v7 μ7 hle7 hR7 => ?_
 have hle17 := hle4.trans (hle5.trans (hle6.trans hle7))
 obtain ⟨bg, fd, tv, rfl, hbg, hfd⟩ : ∃ bg fd tv, v7 = .tuple #[tv, .bool fd] ∧ RepV μ7 (Gl.d bg) tv ∧ ((fd = true ∧ CgOk (X.ls ds) ∧ bg = cgG (X.ls ds)) ∨ (fd = false ∧ ¬ CgOk (X.ls ds))) := by
  by_cases hok : CgOk (X.ls ds)
  ·rw [cgO, if_pos hok] at hR7
   obtain ⟨tv, h1, h2⟩ := hR7
   exact ⟨_, true, tv, h1, h2, .inl ⟨rfl, hok, rfl⟩⟩
  ·rw [cgO, if_neg hok] at hR7
   exact ⟨.mk 0 ⟨#[]⟩ [] [], false, _, hR7, zeroG_own.rep (fun _ _ h => nomatch h), .inr ⟨rfl, hok⟩⟩
 have w_ := Gl.invV hbg
 obtain ⟨q7, rfl⟩ := w_
 intro r27 r29
 obtain ⟨LL, hLL⟩ : ∃ LL : Int, r.locals + q2.arity + q2.locals = LL := ⟨_, rfl⟩
 have hqlo0 := hqo.lo0
 have hqlo8 := hqo.lo8
 have hqar0 := hqo.ar0
 have hqar4 := hqo.ar4
 have hp8 := hpo.1
 have hkl := (List.getElem?_eq_some_iff.1 hr).1
 refine loop_nil (fun z : Nat × Option Nat × Nat × List Value × Mem => z.1 ≤ p.rels.length ∧ μ7.Le z.2.2.2.2 ∧ Rows z.2.2.2.2 7 (((p.rels.set k ⟨r.name, r.arity, LL, bg⟩).take z.1).map Rl.d) z.2.2.2.1)
  (fun (i, b, c, us, μ') => ⟨[(8, .loc 1 r8 0), (13, .val (.int .i64 k)), (15, .loc 2 r15 0), (18, .val (.bool gd)), (27, .loc 4 r27 0), (28, .val (.bool fd)), (29, .loc 5 r29 0), (156, .val (.slice q.1 p.rels.length q.2)), (157, .val (.int .i64 p.rels.length)), (158, .val (.int .i64 i))],
   [(1, some (.cells r8 [.val (.slice none 0 0)] 45)), (2, some (.cells r15 (vals (q2.cs qq)) 94)), (4, some (.cells r27 (vals (bg.cs q7)) 30)), (5, some (.cells r29 [.row 6 b us.length c] 45)), (6, some (.row b c 94 7 us))], 7, μ', Mem.nil⟩) (fun z => p.rels.length - z.1)
  (0, none, 0, [], μ7) ⟨Nat.zero_le _, Mem.Le.refl _, .nil⟩ (fun (_, _, _, _, _) => ⟨rfl, rfl⟩) ⟨⟨⟨_, rfl, .inl rfl⟩, ⟨_, rfl, .inl rfl⟩, ⟨_, rfl, .inl rfl⟩, ⟨_, rfl, .inl rfl⟩, ⟨_, rfl, .inl rfl⟩, ⟨_, rfl, .inl rfl⟩, ⟨_, rfl, .inl rfl⟩, ⟨_, rfl, .inl rfl⟩, ⟨_, rfl, .inl rfl⟩, ⟨_, rfl, .inl rfl⟩, trivial⟩, ⟨.inl rfl, .inl rfl, .inl rfl, .inr (.inr ⟨_, _, _, _, rfl, rfl, .inr ⟨6, rfl, rfl, Nat.le_refl _⟩, trivial⟩), .inr (.inl ⟨_, _, rfl, Nat.le_refl _⟩), trivial⟩, rfl, rfl⟩ ?_
 rintro ⟨i, b9, c9, us, μ8⟩ ⟨hi, hle8, hrows5⟩
 dsimp only at hi hle8 hrows5
 have hul := hrows5.len
 simp only [List.length_map, List.length_take, List.length_set] at hul
 refine ifd (fun hlt => ?_) (fun hlt => ?_)
 ·have w_ := aSo (l := p.rels) (i := i) (by omega)
  obtain ⟨x2, hx2⟩ := w_
  have w_ := Rl.elemA (hrl.mono (hle1.trans (hle17.trans hle8))) hx2
  obtain ⟨ad, qx, hel, hr2, hb⟩ := w_
  have hb : RepV μ8 x2.body.d (.agg (x2.body.cs qx).toArray) := hb
  refine eIn hel ?_
  intro r31
  refine cPl (l13Copy_spec x2.body hb (hpo.2 i x2 hx2).body) fun v9 μ9 hle9 hR9 => ?_
  have w_ := Gl.invV hR9
  obtain ⟨q9, rfl⟩ := w_
  intro r32
  refine ifd (fun hik => ?_) (fun hik => ?_)
  ·obtain rfl : i = k := by omega
   rw [hr] at hx2
   cases hx2
   refine num64 (by omega) (by omega) ?_
   refine num64 (by omega) (by omega) ?_
   rw [hLL]
   intro r190
   refine gIn ?_ ?_ fun b' c' _ => ?_
   ·show (us.length + 1) * 104 ≤ _; omega
   ·exact Nat.le_trans (m := 100000000) (show us.length + 1 ≤ _ by omega) (by decide)
   refine num64 (by omega) (by omega) ⟨(i + 1, b', c', _, μ9), ⟨by dsimp only; omega, hle8.trans hle9, ?_⟩, by dsimp only; omega, ⟨⟨rfl, rfl, rfl, rfl, rfl, rfl, rfl, rfl, rfl, rfl, trivial⟩, ⟨rfl, rfl, rfl, rfl, rfl, trivial⟩, rfl, rfl⟩⟩
   dsimp only
   rw [List.take_add_one, List.getElem?_set_self (by omega), Option.toList_some]
   simp only [List.map_append, List.map_cons, List.map_nil]
   refine (hrows5.mono hle9).append (Rows.one ?_ (Rl.d_n _))
   rw [Rl.d_eq]
   exact ⟨_, rfl, RepS.str (RepS.int (RepS.int (RepS.last (RepV.cells (RepV.mono (hle8.trans hle9) hbg)))))⟩
  ·intro r190
   refine gIn ?_ ?_ fun b' c' _ => ?_
   ·show (us.length + 1) * 104 ≤ _; omega
   ·exact Nat.le_trans (m := 100000000) (show us.length + 1 ≤ _ by omega) (by decide)
   refine num64 (by omega) (by omega) ⟨(i + 1, b', c', _, μ9), ⟨by dsimp only; omega, hle8.trans hle9, ?_⟩, by dsimp only; omega, ⟨⟨rfl, rfl, rfl, rfl, rfl, rfl, rfl, rfl, rfl, rfl, trivial⟩, ⟨rfl, rfl, rfl, rfl, rfl, trivial⟩, rfl, rfl⟩⟩
   dsimp only
   rw [List.take_add_one, List.getElem?_set_ne (by omega), hx2, Option.toList_some]
   simp only [List.map_append, List.map_cons, List.map_nil]
   refine (hrows5.mono hle9).append (Rows.one ?_ (Rl.d_n _))
   rw [Rl.d_eq]
   exact ⟨_, rfl, RepS.str (RepS.int (RepS.int (RepS.last (RepV.cells hR9))))⟩
 obtain rfl : i = p.rels.length := by omega
 rw [List.take_of_length_le (by rw [List.length_set]; omega)] at hrows5
 have hqcl : X.q.body.cl = q2.body.cl := by rw [hXe]
 rcases hgd with ⟨rfl, e4⟩ | ⟨rfl, e4⟩
 rotate_left
 ·refine iIn (fun _ => ?_) (fun h => nomatch h)
  refine rPl ?_
  rw [unfO_bad hAt fun ds' hd => by have h1 := hd.1; rw [hqcl, e4] at h1; cases h1]
  rfl
 refine iIn (fun h => nomatch h) (fun _ => ?_)
 have hds : ∀ ds', X.q.body.cl = some ds' → ds' = ds := fun ds' h1 => by rw [hqcl, e4] at h1; exact (Option.some.inj h1).symm
 rcases hfd with ⟨rfl, hok, rfl⟩ | ⟨rfl, hok⟩
 rotate_left
 ·refine iIn (fun _ => ?_) (fun h => nomatch h)
  refine rPl ?_
  rw [unfO_bad hAt fun ds' hd => by have h1 := hds ds' hd.1; subst h1; exact hok hd.2.1]
  rfl
 refine iIn (fun h => nomatch h) (fun _ => ?_)
 have hXpg : X.pg p ds = ⟨p.rels.set k ⟨r.name, r.arity, LL, cgG (X.ls ds)⟩⟩ := by rw [UnfD.pg, hXe, ← hLL]
 have hwP : (X.pg p ds).d.wd := by
  have hw1 : D.wds (p.rels.map Rl.d) := by rw [Pg.d_eq] at hw; exact hw.1
  rw [hXpg, Pg.d_eq]
  refine ⟨D.wds_of fun d hd => ?_, trivial⟩
  have w_ := List.mem_map.1 hd
  obtain ⟨x, hx, rfl⟩ := w_
  rcases List.mem_or_eq_of_mem_set hx with hx | rfl
  ·exact D.wds_mem hw1 _ (List.mem_map_of_mem hx)
  ·have hrw := (rl_body_wd hw hr).1
   rw [Rl.d_eq] at hrw ⊢
   refine ⟨hrw.1, hrw.2.1, ⟨show _ ≤ LL by omega, show LL ≤ _ by omega⟩, ?_, trivial⟩
   refine Gl.wd_mk ⟨show (-9223372036854775808 : Int) ≤ 8 by decide, show (8 : Int) ≤ 9223372036854775807 by decide⟩ (Nat.zero_le _) (fun x hx => absurd hx List.not_mem_nil) fun x hx => ?_
   have w_ := List.mem_map.1 (show x ∈ (X.ls ds).map cgA from hx)
   obtain ⟨z, hz, rfl⟩ := w_
   exact Gl.wd_mk ⟨show (-9223372036854775808 : Int) ≤ 7 by decide, show (7 : Int) ≤ 9223372036854775807 by decide⟩ (Nat.zero_le _) (fun x hx => absurd hx List.not_mem_nil) fun x hx => hLw z hz x hx
 refine call_frz [6] ?_
 intro μ9 hle9 hno9 hat9
 have hfin := Pg.repS (p := X.pg p ds) (by rw [hXpg]; exact Rows.sl hat9 (hrows5.mono hle9) (Nat.le_trans (m := 100000000) (by omega) (by decide)))
 refine call_go (spec_ProgramOk_spec hfin hwP) fun v10 μ10 hle10 hR10 => ?_
 obtain rfl := hR10
 refine ifnd (fun hbad => ?_) (fun hgood => ?_)
 ·refine rPl ?_
  rw [unfO_bad hAt fun ds' hd => by have h1 := hds ds' hd.1; subst h1; exact hbad hd.2.2]
  rfl
 ·refine rPl ?_
  rw [unfO_some hAt ⟨by rw [hqcl, e4], hok, hgood⟩]
  exact ⟨_, rfl, RepV.mono hle10 hfin⟩
theorem impl_UnfoldCall_spec {p : Pg} {nm : ByteArray} {clause call : Int} {v : Value} (hp : RepV μ p.d v) (hcl : InR call) :
  Spec Tryz.prog 28 [v, .string nm, .int .i64 clause, .int .i64 call] μ fun v μ' => optP (fun y tv => Fresh μ μ' y.d tv) ((unfO p nm clause call).map Prod.fst) v := by
 have hp0 := hp
 have w_ := Pg.inv hp
 obtain ⟨q, rfl, hrl⟩ := w_
 refine Spec.mk Tryz.func28 (by kernel_rfl) ?_
 intro r4 r8
 refine cPl (impl_unfolded_spec hp0 hcl) fun v1 μ1 hle1 hR => ?_
 cases e : unfO p nm clause call with
 | none =>
  rw [e] at hR
  obtain rfl := hR
  intro r10
  exact rPl rfl
 | some z =>
  rw [e] at hR
  obtain ⟨tv, rfl, hR⟩ := hR
  have w_ := Pg.invV hR.rep
  obtain ⟨q1, rfl⟩ := w_
  intro r10
  exact rPl ⟨_, rfl, hR⟩
end
end Go.Vx
namespace Go.Vx
open Go.Proofs Classical
section
variable {μ : Mem}
theorem unfO_ok {p : Pg} {nm : ByteArray} {c k : Int} : ∀ y, (unfO p nm c k).map Prod.fst = some y → y.Ok := fun y h => by
 rw [unfO] at h
 split at h
 ·rename_i hx
  cases h
  exact hx.choose_spec.2.2.2
 ·cases h
set_option maxHeartbeats 4000000 in
theorem FnExactUnfoldCall_spec {t0 : Pg} {v0 : Value} {nm : ByteArray} {cl ca : Int} (kc : InR cl) (ka : InR ca) (h0 : RepV μ t0.d v0) (w0 : t0.d.wd) :
  Spec Tryz.prog 5 [v0, .string nm, .int .i64 cl, .int .i64 ca] μ fun r _ => r = .bool true := by
 obtain ⟨p0, rfl⟩ := Pg.invV h0
 refine Spec.mk Tryz.func5 (by kernel_rfl) ?_
 intro r0
 refine ifd (fun h => rPl rfl) (fun h => ?_)
 refine cGv (szProgram_spec t0 h0 (by omega) (by omega) w0) ?_
 refine ifd (fun h => rPl rfl) (fun h => ?_)
 have q0 := szR_ge h
 rw [szR_pos q0] at h
 have hb0 : t0.d.sz ≤ 1048576 := by omega
 refine cPl (toProgram_spec t0 h0 hb0) fun u1 μ1 hle1 hf1 => ?_
 replace h0 := h0.mono hle1
 obtain ⟨qq2, rfl⟩ := Pg.invV hf1.rep
 have a0 := hf1.rep
 refine cPl (spec_UnfoldCall_spec (nm := nm) (clause := cl) (call := ca) a0 w0 kc) fun u3 μ3 hle3 hR => ?_
 replace h0 := h0.mono hle3
 replace a0 := a0.mono hle3
 obtain ⟨w0, rfl, hw0⟩ := optP_rep hR
 obtain ⟨qq4, rfl⟩ := Pg.invV hw0
 have hw := hw0
 intro rw0
 refine call_new id (apart_nil _) Owns.none ((toProgram_spec t0 (h0.mono (Mem.le_join _ _)) hb0).weaken fun v μ' _ h => ⟨v, rfl, h⟩) fun x0 μ5 H5 hle5 hap5 ho5 => ?_
 replace h0 := h0.mono hle5
 replace hw := hw.mono hle5
 obtain ⟨qq6, rfl⟩ := Pg.invV (Owns.rep (l1 := []) hap5 ho5)
 have xx0 := (Owns.rep (l1 := []) hap5 ho5)
 intro rx0
 refine call_new (fun gv => .tuple #[gv, .bool ((unfO t0 nm cl ca).map Prod.fst).isSome]) hap5 ho5 ((impl_UnfoldCall_spec (nm := nm) (clause := cl) (call := ca) (Owns.rep (l1 := []) hap5 ho5) ka).weaken fun v μ' _ h => optP_fresh h) fun g0 μ7 H7 hle7 hap7 ho7 => ?_
 replace h0 := h0.mono hle7
 replace hw := hw.mono hle7
 obtain ⟨qq8, rfl⟩ := Pg.invV (Owns.rep (l1 := [_]) hap7 ho7)
 have gg := (Owns.rep (l1 := [_]) hap7 ho7)
 intro rg0
 refine call_read hap7 (eqProgram_spec _ (Owns.rep (l1 := [_]) hap7 ho7) (hw.mono (Mem.le_join _ _))) ?_
 refine iIn (fun h => nomatch h) (fun _ => ?_)
 refine iIn (fun h => absurd h (by simp)) (fun _ => ?_)
 refine cDa hap7 (toProgram_spec t0 h0 hb0) fun u9 μ9 hle9 hap9 hf9 => ?_
 replace h0 := h0.mono hle9
 replace hw := hw.mono hle9
 refine call_read hap9 (eqProgram_spec t0 (Owns.rep (l1 := []) hap9 ho7) (hf9.rep.mono (Mem.le_join _ _))) ?_
 refine iIn (fun h => nomatch h) (fun _ => ?_)
 have ca0 := pg_cnt_sz t0
 rw [Pg.cnt_eq] at ca0
 have ma0 := pg_mt t0 (1)
 have rz := resPg_cnt (o := (unfO t0 nm cl ca).map Prod.fst) unfO_ok
 have mg := pg_mt (resPg ((unfO t0 nm cl ca).map Prod.fst)) 1
 refine call_mark (l1 := []) hap9 ho7 (fun hx o => markProgram_spec t0 o (by omega) (by omega)) fun H10 hap10 ho10 => ?_
 refine ifd (fun h => by omega) (fun _ => ?_)
 refine call_read hap10 (eqProgram_spec _ (Owns.rep (l1 := [_]) hap10 ho10) (hw.mono (Mem.le_join _ _))) ?_
 refine iIn (fun h => nomatch h) (fun _ => ?_)
 refine iIn (fun h => absurd h (by simp)) (fun _ => ?_)
 refine call_mark (l1 := [_]) hap10 ho10 (fun hx o => markProgram_spec _ o (by omega) (by omega)) fun H11 hap11 ho11 => ?_
 refine call_read hap11 (heldProgram_spec _ (Owns.rep (l1 := [_]) hap11 ho11) (by omega) (by omega)) ?_
 refine ifd (fun h => by omega) (fun _ => ?_)
 refine ifnd (fun h => absurd rfl h) (fun _ => ?_)
 refine cDa hap11 (toProgram_spec t0 h0 hb0) fun u12 μ12 hle12 hap12 hf12 => ?_
 replace h0 := h0.mono hle12
 replace hw := hw.mono hle12
 obtain ⟨qq13, rfl⟩ := Pg.invV hf12.rep
 have o0 := hf12.rep
 refine cDa hap12 ((impl_UnfoldCall_spec (nm := nm) (clause := cl) (call := ca) o0 ka).weaken fun v μ' _ h => optP_fresh h) fun u14 μ14 hle14 hap14 hR => ?_
 replace h0 := h0.mono hle14
 replace hw := hw.mono hle14
 replace o0 := o0.mono hle14
 obtain ⟨h0, rfl, hh0⟩ := hR
 obtain ⟨qq15, rfl⟩ := Pg.invV hh0.rep
 have hh := hh0.rep
 intro rh0
 refine call_read hap14 (eqProgram_spec _ (hh.mono (Mem.le_join _ _)) (hw.mono (Mem.le_join _ _))) ?_
 refine iIn (fun h => nomatch h) (fun _ => ?_)
 refine iIn (fun h => absurd h (by simp)) (fun _ => ?_)
 refine call_read hap14 (heldProgram_spec _ (Owns.rep (l1 := [_]) hap14 ho11) (by omega) (by omega)) ?_
 refine ifd (fun h => by omega) (fun _ => ?_)
 refine ifnd (fun h => absurd rfl h) (fun _ => ?_)
 exact rPl rfl
end
end Go.Vx
