/- Texts of the proof, part 5. -/
import Derived.Orders
import Derived.Below
import Derived.WalkKit
import Derived.MapKept
import Derived.WideKeyMaps
import Derived.Maps.RangeRun
import Derived.Laws.Cover3
import Derived.Laws.IdiomStrings
import Derived.Laws.BytesString
import Derived.Deep.RegionHeld3
import Derived.Carry
import Derived.ChangeArms
import Derived.RowKit3
import Derived.Test.YtcpooehlndhcbaaGreatChecked
import Derived.KernelRfl
import Derived.ProofKit
import Derived.OpenShut
import Derived.ChangeOld
import Derived.Handed
import Derived.JoinedOf
import Derived.Sort.AssemblyPlain
import Derived.Lib.ReflectliteSwap
import Derived.Test.YtcpooehlndhcbaaGreatM4
/- Contracts: a row sorted by its owner's functions: insertion, turning round, a heap. -/
namespace Go.Vx
open Go.Proofs Classical
open Go.Sort
/-- What those functions do: J d is the owned memory that holds the row d. -/
structure SortBy {α : Type} [Inhabited α] (lf sf : FuncId) (lb sb : List Value) (n : Nat) (lt : α → α → Bool) (μ0 : Mem) (J : Array α → Mem) (V : Array α → Prop) : Prop where
  max : n ≤ 1000000000000
  size : ∀ {d}, V d → d.size = n
  sw : ∀ {d : Array α} {i j : Nat}, V d → i < n → j < n → V (swp d i j)
  dom : ∀ {d d' : Array α} {b : Nat}, V d → V d' → J d b = none → J d' b = none
  less : ∀ {μ : Mem} {d : Array α} {i j : Nat}, μ0.Le μ → V d → i < n → j < n → SpecH Tryz.prog lf (.int .i64 i :: .int .i64 j :: lb) μ (J d) fun v μ' h' => v = .bool (lt d[i]! d[j]!) ∧ μ' = μ ∧ h' = J d
  swap : ∀ {μ : Mem} {d : Array α} {i j : Nat}, μ0.Le μ → V d → i < n → j < n → SpecH Tryz.prog sf (.int .i64 i :: .int .i64 j :: sb) μ (J d) fun v μ' h' => v = .tuple #[] ∧ μ' = μ ∧ h' = J (swp d i j)
section
variable {α : Type} [Inhabited α] {lf sf : FuncId} {lb sb : List Value} {n : Nat} {lt : α → α → Bool} {μ0 : Mem} {J : Array α → Mem} {V : Array α → Prop} {μ : Mem} {d : Array α}
end
end Go.Vx

/- Contracts: the choice of a pivot, by the owner's functions. -/
namespace Go.Vx
open Go.Proofs Classical
open Go.Sort
theorem parts_set {g : Mem} {r : Nat} {o : Obj} (h : g r = none) : Parts (g.set r o) (Mem.nil.set r o) g := fun b => by
  by_cases e : b = r
  · subst e; exact .inl ⟨by rw [Mem.set_at, Mem.set_at], h⟩
  · exact .inr ⟨by rw [Mem.set_ne e], by rw [Mem.set_ne e]; rfl⟩
section
variable {α : Type} {J : Array α → Mem} {μ : Mem} {d : Array α} {rs : Nat} {s : Int}
end
section
variable {α : Type} [Inhabited α] {lf sf : FuncId} {lb sb : List Value} {n : Nat} {lt : α → α → Bool} {μ0 : Mem} {J : Array α → Mem} {V : Array α → Prop} {μ : Mem} {d : Array α} {rs : Nat} {s : Int}
/-- The same beside a block of one's own. -/
theorem SortBy.beside (H : SortBy lf sf lb sb n lt μ0 J V) (o : Obj) (h : ∀ d, V d → J d rs = none) : SortBy lf sf lb sb n lt μ0 (fun d => (J d).set rs o) V where
  max := H.max
  size := H.size
  sw := H.sw
  dom hV hV' hb := by
    simp only [Mem.set_get] at hb ⊢
    split at hb
    · cases hb
    · rename_i e; rw [if_neg e]; exact H.dom hV hV' hb
  less hle hV hi hj := (SpecH.frame (parts_set (h _ hV)).symm (H.less hle hV hi hj)).weaken fun v μ' h' _ _ ⟨g, ⟨e1, e2, e3⟩, p⟩ => ⟨e1, e2, by rw [e3] at p; exact p.eq (parts_set (h _ hV)).symm⟩
  swap hle hV hi hj := (SpecH.frame (parts_set (h _ hV)).symm (H.swap hle hV hi hj)).weaken fun v μ' h' _ _ ⟨g, ⟨e1, e2, e3⟩, p⟩ => ⟨e1, e2, by rw [e3] at p; exact p.eq (parts_set (h _ (H.sw hV hi hj))).symm⟩
end
end Go.Vx

/- Contracts: what sort.Slice asks of package reflectlite; rows in owned memory that are changed about by it. -/
namespace Go.Vx
open Go.Proofs Classical
open Go.Sort
open Go.Extern Go.Extern.Rtype Go.RowKit Go.Lib
section
variable {P : Program} {f : FuncId} {args : List Value} {μ h0 : Mem}
/-- A function that answers at once. -/
theorem SpecH.ext {R : Value → Mem → Mem → Prop} (h : ∀ w, Holds μ w → Holds h0 w → Apart μ h0 → ∃ v w' μ' h', (callFunc f args.toArray).run P w = .ok (.value v) w' ∧ R v μ' h' ∧ Step μ h0 w μ' h' w') : SpecH P f args μ h0 R :=
  ⟨trivial, fun w h1 h2 h3 => by
    have hv_ := h w h1 h2 h3
    obtain ⟨v, w', μ', h', e, hr, hS⟩ := hv_
    exact .inr ⟨v, w', e, v, μ', h', rfl, hr, hS⟩⟩
theorem Step.same {w : World} (h1 : Holds μ w) (h2 : Holds h0 w) (h3 : Apart μ h0) : Step μ h0 w μ h0 w :=
  ⟨Mem.Le.refl _, h1, h2, h3, fun _b h h' => absurd h h', fun _b h => .inr h, Nat.le_refl _, fun _ _ _ => rfl, rfl, rfl, rfl⟩
/-- A row of its own is written over. -/
theorem Step.row {w : World} {r : Nat} {cs cs' : Array Value} {ty : TypeId} (h1 : Holds μ w) (h2 : Holds h0 w) (h3 : Apart μ h0) (hr : h0 r = some (.cells cs ty (0, 0))) : Step μ h0 w μ (h0.set r (.cells cs' ty (0, 0))) (w.setRow r cs') := by
  have hne : ∀ b, μ b ≠ none → b ≠ r := fun b hb e => by
    subst e; rw [h3 b hb] at hr; cases hr
  have hg : w.heap[r]? = some (.cells cs ty (0, 0)) := h2 _ _ hr
  refine ⟨Mem.Le.refl _, fun b o hb => ?_, fun b o hb => ?_, fun b hb => ?_, fun b h h' => absurd h h', fun b h => ?_, by simp, fun b _ hb => setRow_other w r b _ fun e => ?_, rfl, rfl, rfl⟩
  · rw [setRow_other w r b _ (hne b (by simp [hb]))]; exact h1 b o hb
  · rw [Mem.set_get] at hb
    split at hb
    · rename_i e; subst e; cases hb; rw [setRow_heap w b _ _ ty (0, 0) hg]
    · rename_i e; rw [setRow_other w r b _ e]; exact h2 b o hb
  · rw [Mem.set_ne (hne b hb)]; exact h3 b hb
  · by_cases e : b = r
    · subst e; exact .inr (by rw [hr]; simp)
    · rw [Mem.set_ne e] at h; exact .inr h
  · subst e; rw [hr] at hb; cases hb
/-- A new block. -/
theorem Step.alloc {w : World} {o : Obj} (h1 : Holds μ w) (h2 : Holds h0 w) (h3 : Apart μ h0) : Step μ h0 w (μ.set w.heap.size o) h0 (w.alloc o) ∧ μ w.heap.size = none := by
  have hlt : ∀ b o, w.heap[b]? = some o → b < w.heap.size := fun b o h => (Array.getElem?_eq_some_iff.1 h).1
  have hm : μ w.heap.size = none := by
    cases e : μ w.heap.size with
    | none => rfl
    | some o => have := hlt _ _ (h1 _ _ e); omega
  have hh : h0 w.heap.size = none := by
    cases e : h0 w.heap.size with
    | none => rfl
    | some o => have := hlt _ _ (h2 _ _ e); omega
  have hk : ∀ b, b < w.heap.size → (w.alloc o).heap[b]? = w.heap[b]? := fun b hb => by
    show (w.heap.push o)[b]? = _
    rw [Array.getElem?_push, if_neg (by omega)]
  refine ⟨⟨fun b x hb => ?_, fun b x hb => ?_, fun b x hb => ?_, fun b hb => ?_, fun b h h' => ?_, fun b h => .inr h, by show w.heap.size ≤ (w.heap.push o).size; simp, fun b hb _ => hk b hb, rfl, rfl, rfl⟩, hm⟩
  · rw [Mem.set_ne (fun e => by subst e; rw [hm] at hb; cases hb)]; exact hb
  · rw [Mem.set_get] at hb
    split at hb
    · rename_i e; subst e; cases hb; show (w.heap.push o)[w.heap.size]? = some o; simp
    · rw [hk b (hlt _ _ (h1 _ _ hb))]; exact h1 _ _ hb
  · rw [hk b (hlt _ _ (h2 _ _ hb))]; exact h2 _ _ hb
  · rw [Mem.set_get] at hb
    split at hb
    · rename_i e; subst e; exact hh
    · exact h3 b hb
  · rw [Mem.set_get] at h'
    split at h'
    · rename_i e; subst e; exact .inl (Nat.le_refl _)
    · exact absurd h h'
end
/-- What the model is told of a slice type. -/
structure SlTy (t e : TypeId) (i ie : TypeInfo) (ke : Nat) : Prop where
  hi : Tryz.prog.info? t = some i
  hd : i.desc = .slice e
  pk : Tryz.prog.packed t = false
  hie : Tryz.prog.info? e = some ie
  hke : ∀ w, (Extern.Rtype.kind e).run Tryz.prog w = .ok ke w
  h9 : swapperK 2 ie ke = 9
section
variable {μ : Mem}
end
end Go.Vx

/- Contracts: sort.Slice over a row in owned memory. -/
namespace Go.Vx
open Go.Proofs Classical
open Go.Sort
open Go.Extern Go.Extern.Rtype Go.RowKit Go.Lib
/-- A row in owned memory: its elements' cells, then the rest of its block. -/
def RowV (h0 : Mem) (r : Nat) (ty : TypeId) (rest : List Value) (d : Array Value) : Mem := h0.set r (.cells (List.toArray (d.toList.flatMap vcells ++ rest)) ty (0, 0))
/-- Elements of es cells. -/
def Els (es : Nat) (d : Array Value) : Prop := ∀ x ∈ d.toList, (vcells x).length = es ∧ ∀ u ∈ vcells x, u.oneCell' = true
theorem flat_put {es : Nat} : ∀ {l : List Value}, (∀ y ∈ l, (vcells y).length = es) → ∀ {i : Nat}, i < l.length → ∀ {y : Value}, (vcells y).length = es → ∀ rest : List Value,
    (l.flatMap vcells ++ rest).take (i * es) ++ vcells y ++ (l.flatMap vcells ++ rest).drop (i * es + es) = (l.set i y).flatMap vcells ++ rest
  | [], _, i, hi, _, _, _ => by simp at hi
  | z :: r, hl, 0, _, y, hy, rest => by
    have hz := hl z (by simp)
    simp only [Nat.zero_mul, List.take_zero, List.nil_append, Nat.zero_add, List.set_cons_zero, List.flatMap_cons, List.append_assoc]
    rw [← hz, List.drop_left]
  | z :: r, hl, i + 1, hi, y, hy, rest => by
    have hz := hl z (by simp)
    have ih := flat_put (l := r) (fun y h => hl y (List.mem_cons_of_mem _ h)) (i := i) (by simpa using hi) hy rest
    simp only [List.set_cons_succ, List.flatMap_cons, List.append_assoc] at ih ⊢
    have e1 : (i + 1) * es = (vcells z).length + i * es := by rw [hz, Nat.add_mul, Nat.one_mul, Nat.add_comm]
    rw [e1, List.take_length_add_append, Nat.add_assoc, List.drop_length_add_append, List.append_assoc, ih]
theorem arrV_at {d : Array Value} {k : Nat} (h : k < d.size) : d.toList[k]? = some d[k]! := by
  rw [Array.getElem?_toList, getElem!_pos d k h, Array.getElem?_eq_getElem h]
theorem arrV_mem {d : Array Value} {k : Nat} (h : k < d.size) : d[k]! ∈ d.toList := List.mem_of_getElem? (arrV_at h)
theorem Els.perm {es n : Nat} {d d' : Array Value} (hn : d.size = n) (h : Els es d) (p : PermIn 0 n d d') : Els es d' := fun x hx => by
  have hv_ := List.mem_iff_getElem?.1 hx
  obtain ⟨i, hi⟩ := hv_
  have hi2 : i < d'.size := by have := (List.getElem?_eq_some_iff.1 hi).1; simpa using this
  rw [arrV_at hi2] at hi
  cases hi
  exact permIn_all d d' 0 n (fun x => (vcells x).length = es ∧ ∀ u ∈ vcells x, u.oneCell' = true) (by omega) p (fun j _ hj => h _ (arrV_mem (by omega))) i (by omega) (by rw [p.1] at hi2; omega)
section
variable {P : Program} {μ h0 : Mem} {r : Nat} {ty : TypeId} {rest : List Value} {d : Array Value} {es : Nat}
/-- A cell of an element is read. -/
theorem RowV.cell (hE : Els es d) {i c : Nat} {v : Value} (hi : i < d.size) (hv : (vcells d[i]!)[c]? = some v) : (RowV h0 r ty rest d).cell ⟨r, i * es + c, none⟩ = some v := by
  have h := flat_at (fun y hy => (hE y hy).1) (arrV_at hi) hv
  simp only [Mem.cell, RowV, Mem.set_at, Option.isSome_none]
  have h2 := (List.getElem?_eq_some_iff.1 h).1
  simp only [List.getElem?_toArray]
  rw [List.getElem?_append_left h2, h]
  rfl
theorem load_row {e : TypeId} {ti : TI} (hti : TIok P e ti) (w : World) (a : Addr) (x : Value) (hl : (vcells x).length = ti.size) (h : ∀ j v, (vcells x)[j]? = some v → w.cell? (a.add j) = some v) (h1 : ti.agg = false → ti.size = 1) (h2 : ∀ u ∈ vcells x, u.oneCell' = true) :
    ∃ y, (loadVar e a).run P w = .ok y w ∧ vcells y = vcells x := by
  have hr := run_loadVar_cells hti w a (vcells x) hl h h1
  refine ⟨_, hr, ?_⟩
  cases hg : ti.agg with
  | true => simp [vcells]
  | false =>
    rw [h1 hg] at hl
    match hc : vcells x, hl with
    | [u], _ =>
      have := h2 u (by rw [hc]; simp)
      simp only [Bool.false_eq_true, if_false, List.getD_cons_zero]
      cases u <;> first | rfl | (simp [Value.oneCell'] at this)
/-- Swapper's function: two elements change about. -/
theorem swap9_spec {e : TypeId} {ti : TI} (hti : TIok Tryz.prog e ti) (h1 : ti.agg = false → ti.size = 1) (hE : Els ti.size d) {n cap i j : Nat} (hd : d.size = n) (hi : i < n) (hj : j < n) :
    SpecH Tryz.prog 266 [.int .i64 i, .int .i64 j, .slice (some ⟨r, 0, none⟩) n cap, typeHandle Tryz.prog e] μ (RowV h0 r ty rest d) fun v μ' h' => v = .tuple #[] ∧ μ' = μ ∧ h' = RowV h0 r ty rest (swp d i j) := by
  refine SpecH.ext fun w hm hh ha => ?_
  subst hd
  have hX := hE _ (arrV_mem hi)
  have hY := hE _ (arrV_mem hj)
  have hcell : ∀ k, k < d.size → ∀ c v, (vcells d[k]!)[c]? = some v → w.cell? ((⟨r, k * ti.size, none⟩ : Addr).add c) = some v := fun k hk c v hv => by
    rw [Addr.add_lit']; exact hh.cell (RowV.cell hE hk hv)
  have hv_ := load_row hti w ⟨r, i * ti.size, none⟩ d[i]! hX.1 (hcell i hi) h1 hX.2
  obtain ⟨X, l1, eX⟩ := hv_
  have hv_ := load_row hti w ⟨r, j * ti.size, none⟩ d[j]! hY.1 (hcell j hj) h1 hY.2
  obtain ⟨Y, l2, eY⟩ := hv_
  have hb : ∀ k, k < d.size → k * ti.size + ti.size ≤ d.size * ti.size := fun k hk => by
    have := Nat.mul_le_mul_right ti.size (show k + 1 ≤ d.size from hk); rwa [Nat.add_mul, Nat.one_mul] at this
  have hlen : (d.toList.flatMap vcells).length = d.size * ti.size := by rw [flat_len _ fun y hy => (hE y hy).1]; simp
  have hg : w.heap[r]? = some (.cells (List.toArray (d.toList.flatMap vcells ++ rest)) ty (0, 0)) := hh _ _ (Mem.set_at _ _ _)
  have s1 := run_storeVar hti w r (i * ti.size) _ ty hg Y (by rw [eY]; exact hY.1) (by have := hb i hi; simp [hlen]; omega) (by rw [eY]; exact hY.2)
  have e1 := flat_put (fun y hy => (hE y hy).1) (l := d.toList) (i := i) (by simpa using hi) (y := d[j]!) hY.1 rest
  rw [eY, hY.1] at s1
  simp only [e1] at s1
  have hE2 : ∀ y ∈ d.toList.set i d[j]!, (vcells y).length = ti.size := fun y hy => by
    rcases List.mem_or_eq_of_mem_set hy with h | h
    · exact (hE y h).1
    · subst h; exact hY.1
  have hlen2 : ((d.toList.set i d[j]!).flatMap vcells).length = d.size * ti.size := by rw [flat_len _ hE2]; simp
  have hg2 : (w.setRow r (List.toArray ((d.toList.set i d[j]!).flatMap vcells ++ rest))).heap[r]? = some (.cells (List.toArray ((d.toList.set i d[j]!).flatMap vcells ++ rest)) ty (0, 0)) := setRow_heap w r _ _ ty (0, 0) hg
  have s2 := run_storeVar hti _ r (j * ti.size) _ ty hg2 X (by rw [eX]; exact hX.1) (by have := hb j hj; simp [hlen2]; omega) (by rw [eX]; exact hX.2)
  have e2 := flat_put hE2 (i := j) (by simpa using hj) (y := d[i]!) hX.1 rest
  rw [eX, hX.1] at s2
  simp only [e2] at s2
  have hsw : (d.toList.set i d[j]!).set j d[i]! = (swp d i j).toList := by rw [swp, Array.toList_setIfInBounds, Array.toList_setIfInBounds]
  rw [hsw] at s2
  have hss : ∀ z z', (w.setRow r z).setRow r z' = w.setRow r z' := fun z z' => setRow_setRow w r z z'
  have hS := Step.row (cs' := List.toArray ((swp d i j).toList.flatMap vcells ++ rest)) hm hh ha (Mem.set_at _ _ _)
  refine ⟨.tuple #[], w.setRow r (List.toArray ((swp d i j).toList.flatMap vcells ++ rest)), μ, RowV h0 r ty rest (swp d i j), ?_, ⟨rfl, rfl, rfl⟩, ?_⟩
  rotate_left
  · rw [RowV, Mem.set_set] at hS; exact hS
  rw [run_callFunc_extern Tryz.func266 (by kernel_rfl) (by kernel_rfl) (by kernel_rfl) (e := Extern.ReflectliteSwapper.swap false) (by kernel_rfl)]
  show (Sem.run _ (ReflectliteSwapper.swap false #[.int .i64 i, .int .i64 j, .slice (some ⟨r, 0, none⟩) d.size cap, typeHandle Tryz.prog e]) w).andThen _ = _
  have i0 : ¬ ((i : Int) < 0) := by omega
  have i1 : ¬ ((i : Int) ≥ d.size) := by omega
  have j0 : ¬ ((j : Int) < 0) := by omega
  have j1 : ¬ ((j : Int) ≥ d.size) := by omega
  rw [rl_swap]
  simp [i0, i1, j0, j1, ofHandle, handleType, typeHandle, ReflectliteSwapper.exchange, hti.run_sizeOf, Addr.add_lit', l1, l2, s1, s2, hss, Result.andThen]
end
section
variable {μ h0 : Mem} {lf sf : FuncId} {lb sb : List Value} {n : Nat}
end
section
variable {α : Type} [Inhabited α] {enc : α → Value} {μ h0 : Mem} {r : Nat} {ty t e : TypeId} {i ie : TypeInfo} {ke : Nat} {ti : TI} {rest : List Value} {d0 : Array α} {n cap : Nat} {lf : FuncId} {lb : List Value} {lt : α → α → Bool}
theorem map_get {d : Array α} {k : Nat} (h : k < d.size) : (d.map enc)[k]! = enc d[k]! := by
  rw [getElem!_pos _ k (by simpa using h), getElem!_pos d k h, Array.getElem_map]
theorem swp_map {d : Array α} {a b : Nat} (ha : a < d.size) (hb : b < d.size) : (swp d a b).map enc = swp (d.map enc) a b := by
  unfold swp
  rw [map_get hb, map_get ha]
  simp
theorem permIn_map {d d' : Array α} (hn : d.size = n) (p : PermIn 0 n d d') : PermIn 0 n (d.map enc) (d'.map enc) := by
  obtain ⟨h1, h2, h3⟩ := p
  refine ⟨by simp [h1], fun k hk => ?_, ?_⟩
  · have hk2 : n ≤ k := by omega
    rw [getElem!_neg _ k (by simp; omega), getElem!_neg _ k (by simp; omega)]
  · have e1 : d'.extract 0 n = d' := by rw [← hn, ← h1]; exact Array.extract_size
    have e2 : d.extract 0 n = d := by rw [← hn]; exact Array.extract_size
    have e3 : (d'.map enc).extract 0 n = d'.map enc := by rw [← hn, ← h1, show d'.size = (d'.map enc).size by simp]; exact Array.extract_size
    have e4 : (d.map enc).extract 0 n = d.map enc := by rw [← hn, show d.size = (d.map enc).size by simp]; exact Array.extract_size
    rw [e1, e2] at h3
    rw [e3, e4]
    simpa using h3.map enc
/-- A row of owned memory and its owner's test make a sort. -/
theorem SortBy.row (hti : TIok Tryz.prog e ti) (h1 : ti.agg = false → ti.size = 1) (hE : Els ti.size (d0.map enc)) (hn : d0.size = n) (hmax : n ≤ 1000000000000)
    (less : ∀ {μ' : Mem} {d : Array α} {i j : Nat}, μ.Le μ' → PermIn 0 n d0 d → i < n → j < n → SpecH Tryz.prog lf (.int .i64 i :: .int .i64 j :: lb) μ' (RowV h0 r ty rest (d.map enc)) fun v μ'' h' => v = .bool (lt d[i]! d[j]!) ∧ μ'' = μ' ∧ h' = RowV h0 r ty rest (d.map enc)) :
    SortBy lf 266 lb [.slice (some ⟨r, 0, none⟩) n cap, typeHandle Tryz.prog e] n lt μ (fun d => RowV h0 r ty rest (d.map enc)) (PermIn 0 n d0) where
  max := hmax
  size hV := hV.1.trans hn
  sw hV hi hj := permIn_trans _ _ _ _ _ hV (swp_permIn _ _ _ _ _ (Nat.zero_le _) hi (Nat.zero_le _) hj (by rw [hV.1, hn]; exact Nat.le_refl _))
  dom {d d' b} _ _ hb := by
    simp only [RowV, Mem.set_get] at hb ⊢
    split at hb
    · cases hb
    · rename_i e; rw [if_neg e]; exact hb
  less hle hV hi hj := less hle hV hi hj
  swap {μ d i j} hle hV hi hj := by
    have hs : d.size = n := hV.1.trans hn
    have := swap9_spec (μ := μ) (h0 := h0) (r := r) (ty := ty) (rest := rest) (cap := cap) hti h1 (d := d.map enc) (hE.perm (by simp [hn]) (permIn_map hn hV)) (by simpa using hs) hi hj
    rwa [← swp_map (by omega) (by omega)] at this
end
end Go.Vx

/- Rows of data that change places; impl.sortBindings. -/
namespace Go.Vx
open Go.Proofs Classical
open Go.Sort
/-- Elements with what they stand for. -/
structure Prs {X : Type} (es : Nat) (f : X → D) (ps : List (X × Value)) (g : Mem) : Prop where
  own : OwnRows es (ps.map fun p => f p.1) (ps.map Prod.snd) g
  size : ∀ p ∈ ps, (vcells p.2).length = es ∧ ∀ u ∈ vcells p.2, u.oneCell' = true
section
variable {X : Type} {es : Nat} {f : X → D} {g : Mem}
theorem Prs.uncons {p : X × Value} {ps : List (X × Value)} (h : Prs es f (p :: ps) g) : ∃ g1 g2, Parts g g1 g2 ∧ Own (f p.1) g1 (vcells p.2) ∧ (f p.1).n = es ∧ Prs es f ps g2 := by
  obtain ⟨⟨ho, hs, hl⟩, hz⟩ := h
  simp only [List.map_cons, List.flatMap_cons] at ho
  obtain ⟨c1, c2, g1, g2, e, hp, h1, h2⟩ := ho
  have hn : (f p.1).n = es := hs _ (by simp)
  have hz0 := (hz p (by simp)).1
  have := List.append_inj e (by rw [h1.len, hn, hz0])
  obtain ⟨rfl, rfl⟩ := this
  exact ⟨g1, g2, hp, h1, hn, ⟨h2, fun x hx => hs x (by simp only [List.map_cons]; exact List.mem_cons_of_mem _ hx), by simp⟩, fun q hq => hz q (List.mem_cons_of_mem _ hq)⟩
theorem Prs.cons {p : X × Value} {ps : List (X × Value)} {g1 g2 : Mem} (hp : Parts g g1 g2) (h1 : Own (f p.1) g1 (vcells p.2)) (hn : (f p.1).n = es) (hz : (vcells p.2).length = es ∧ ∀ u ∈ vcells p.2, u.oneCell' = true) (h : Prs es f ps g2) : Prs es f (p :: ps) g := by
  refine ⟨⟨?_, ?_, by simp⟩, ?_⟩
  · simp only [List.map_cons, List.flatMap_cons]
    exact OwnS.cons hp h1 h.own.own
  · intro x hx
    simp only [List.map_cons, List.mem_cons] at hx
    rcases hx with rfl | hx
    · exact hn
    · exact h.own.size x hx
  · intro q hq
    rcases List.mem_cons.1 hq with rfl | hq
    · exact hz
    · exact h.size q hq
theorem Prs.perm {ps ps' : List (X × Value)} (h : ps.Perm ps') : ∀ {g : Mem}, Prs es f ps g → Prs es f ps' g := by
  induction h with
  | nil => exact fun h => h
  | cons p _ ih =>
    intro g h
    obtain ⟨g1, g2, hp, h1, hn, h2⟩ := h.uncons
    exact Prs.cons hp h1 hn (h.size _ (by simp)) (ih h2)
  | swap p q l =>
    intro g h
    obtain ⟨g1, k, hp, h1, hn, h2⟩ := h.uncons
    obtain ⟨g2, g3, hq, h3, hn2, h4⟩ := h2.uncons
    have hv_ := Parts.assoc hp hq.symm
    obtain ⟨m, hm1, hm2⟩ := hv_
    exact Prs.cons hm2.symm h3 hn2 (h.size _ (by simp)) (Prs.cons hm1 h1 hn (h.size _ (by simp)) h4)
  | trans _ _ ih1 ih2 => exact fun h => ih2 (ih1 h)
theorem Prs.at : ∀ {ps : List (X × Value)} {g : Mem}, Prs es f ps g → ∀ p ∈ ps, ∃ g' : Mem, g'.Le g ∧ Own (f p.1) g' (vcells p.2)
  | [], _, _, p, hp => by simp at hp
  | q :: ps, g, h, p, hp => by
    obtain ⟨g1, g2, hpp, h1, _, h2⟩ := h.uncons
    rcases List.mem_cons.1 hp with rfl | hp
    · exact ⟨g1, hpp.left, h1⟩
    · have hv_ := Prs.at h2 p hp
      obtain ⟨g', h3, h4⟩ := hv_
      exact ⟨g', h3.trans hpp.right, h4⟩
end
section
variable {μ h0 : Mem} {r : Nat} {ty : TypeId} {rest : List Value} {es : Nat}
end
noncomputable instance : Inhabited B := ⟨⟨0, .nil⟩⟩
section
variable {μ h0 g : Mem} {r : Nat} {ty : TypeId} {rest : List Value}
end
end Go.Vx

/- Contracts: substitutions composed: the program's side. -/
namespace Go.Vx
open Go.Proofs Classical
open Go.Sort
/-! ### Plain -/
def AscB (l : List B) : Prop := l.Pairwise fun a b => a.var < b.var
theorem Srt.asc {bs : List B} (h : Srt bs) : AscB bs := by
  rw [AscB, List.pairwise_iff_getElem]
  intro i j hi hj hij
  exact h i j _ _ hij (by simp) (by simp)
theorem AscB.srt {bs : List B} (h : AscB bs) : Srt bs := fun i j b c hij hb hc => by
  rw [AscB, List.pairwise_iff_getElem] at h
  have hv_ := List.getElem?_eq_some_iff.1 hb
  obtain ⟨hi, rfl⟩ := hv_
  have hv_ := List.getElem?_eq_some_iff.1 hc
  obtain ⟨hj, rfl⟩ := hv_
  exact h i j hi hj hij
theorem AscB.nodup {l : List B} (h : AscB l) : (l.map B.var).Nodup := by
  rw [List.Nodup, List.pairwise_map]
  exact h.imp fun h => by omega
section
variable {μ : Mem}
theorem Fresh.bd {μ' : Mem} {n : Int} {x : T} {q : Option Addr × Nat} (h : Fresh μ μ' x.tm.d (.agg (x.tm.cs q).toArray)) (hle : μ.Le μ') : Fresh μ μ' (B.bd ⟨n, x⟩).d (.agg (Value.int .i64 n :: x.tm.cs q).toArray) := by
  have := (FreshS.int (n := n) (FreshS.cons h hle (Mem.Le.refl _) FreshS.nil)).st
  have e : vcells (.agg (x.tm.cs q).toArray) ++ [] = x.tm.cs q := by simp [vcells]
  rw [e] at this
  exact this
set_option maxHeartbeats 4000000 in
end
end Go.Vx

/- Contracts: substitutions composed: the reference's side. -/
namespace Go.Vx
open Go.Proofs Classical
def GoodB (b : B) : Prop := b.to.good ∧ 0 ≤ b.var ∧ b.var ≤ 100000
theorem Vals.good {bs : List B} (h : Vals bs) : ∀ b ∈ bs, GoodB b := fun b hb => ⟨(h.tok b hb).1, h.var b hb⟩
theorem InsPos.asc {bs : List B} {b : B} {k : Nat} (h : AscB bs) (hk : InsPos bs b.var k) (hn : b.var ∉ bs.map B.var) : AscB (insAt bs b k) := by
  obtain ⟨hk0, hk1, hk2⟩ := hk
  unfold insAt AscB
  have h1 : ∀ a ∈ bs.take k, a.var < b.var := fun a ha => by
    have hv_ := List.mem_iff_getElem?.1 ha
    obtain ⟨i, hi⟩ := hv_
    have hik : i < k := by
      have := (List.getElem?_eq_some_iff.1 hi).1
      rw [List.length_take] at this; omega
    rw [List.getElem?_take_of_lt hik] at hi
    have hne : a.var ≠ b.var := fun e => hn (by rw [← e]; exact List.mem_map.2 ⟨a, mem_at hi, rfl⟩)
    have hv_ := at_some (l := bs) (i := k - 1) (by omega)
    obtain ⟨c, hc⟩ := hv_
    have h2 := hk1 c hc (by omega)
    rcases Nat.lt_or_ge i (k - 1) with h3 | h3
    · have := h.srt i (k - 1) a c h3 hi hc; omega
    · obtain rfl : i = k - 1 := by omega
      rw [hi] at hc; cases hc; omega
  have h2 : ∀ a ∈ bs.drop k, b.var < a.var := fun a ha => by
    have hv_ := List.mem_iff_getElem?.1 ha
    obtain ⟨i, hi⟩ := hv_
    rw [List.getElem?_drop] at hi
    exact hk2 (k + i) a (by omega) hi
  rw [List.pairwise_append, List.pairwise_append]
  refine ⟨h.sublist (List.take_sublist _ _), ⟨List.pairwise_singleton _ _, h.sublist (List.drop_sublist _ _), fun a ha c hc => ?_⟩, fun a ha c hc => ?_⟩
  · rw [List.mem_singleton] at ha; subst ha; exact h2 c hc
  · rcases List.mem_append.1 hc with hc | hc
    · rw [List.mem_singleton] at hc; subst hc; exact h1 a ha
    · have := h1 a ha; have := h2 c hc; omega
section
variable {μ : Mem}
theorem RepV.bd {n : Int} {x : T} {q : Option Addr × Nat} (h : RepV μ x.tm.d (.agg (x.tm.cs q).toArray)) : RepV μ (B.bd ⟨n, x⟩).d (.agg (Value.int .i64 n :: x.tm.cs q).toArray) := by
  have hc := RepV.cells h
  have e : vcells (.agg (x.tm.cs q).toArray) = x.tm.cs q := by simp [vcells]
  rw [e] at hc
  exact ⟨_, rfl, RepS.int (RepS.last hc)⟩
set_option maxHeartbeats 4000000 in
end
end Go.Vx

/- Contracts: the laws' own functions on values of the type Rule: sizes, copies, equality, marks; what an argument reads. (By gen_types.py.) -/
namespace Go.Vx
open Go.Proofs Classical
structure RuD where
  rel : ByteArray
  hargs : List Tm
  clause : Int
  vals : List Tm
  pos : List Fc
  neg : List Fc
def RuD.d (x : RuD) : D := .st [.s x.rel, .sl 4 (x.hargs.map Tm.d), .i x.clause, .sl 4 (x.vals.map Tm.d), .sl 2 (x.pos.map Fc.d), .sl 2 (x.neg.map Fc.d)]
theorem RuD.d_eq (x : RuD) : x.d = .st [.s x.rel, .sl 4 (x.hargs.map Tm.d), .i x.clause, .sl 4 (x.vals.map Tm.d), .sl 2 (x.pos.map Fc.d), .sl 2 (x.neg.map Fc.d)] := rfl
theorem RuD.d_n (x : RuD) : x.d.n = 6 := by
  rw [RuD.d_eq]
  simp only [D.n, D.ns]
abbrev RuD.P := (Option Addr × Nat) × (Option Addr × Nat) × (Option Addr × Nat) × (Option Addr × Nat)
/-- The cells of a value. -/
def RuD.cs (x : RuD) (p : RuD.P) : List Value := [.string x.rel, .slice p.1.1 x.hargs.length p.1.2, .int .i64 x.clause, .slice p.2.1.1 x.vals.length p.2.1.2, .slice p.2.2.1.1 x.pos.length p.2.2.1.2, .slice p.2.2.2.1 x.neg.length p.2.2.2.2]
section
variable {μ : Mem}
def RuD.At (μ : Mem) (x : RuD) (p : RuD.P) : Prop := Sl μ 4 p.1.1 x.hargs.length (x.hargs.map Tm.d) ∧ Sl μ 4 p.2.1.1 x.vals.length (x.vals.map Tm.d) ∧ Sl μ 2 p.2.2.1.1 x.pos.length (x.pos.map Fc.d) ∧ Sl μ 2 p.2.2.2.1 x.neg.length (x.neg.map Fc.d)
theorem RuD.invA {x : RuD} {cs : List Value} (h : Rep μ x.d cs) : ∃ p : RuD.P, cs = x.cs p ∧ RuD.At μ x p := by
  rw [RuD.d_eq] at h
  obtain ⟨a0, t0, rfl, h0, h⟩ := h
  have h0 : a0 = [.string x.rel] := h0
  subst h0
  obtain ⟨a1, t1, rfl, h1, h⟩ := h
  have hv_ := one_of (Rep.len _ _ h1)
  obtain ⟨v1, rfl⟩ := hv_
  have hv_ := Rep.sl h1
  obtain ⟨b1, c1, rfl, s1⟩ := hv_
  rw [List.length_map] at s1
  obtain ⟨a2, t2, rfl, h2, h⟩ := h
  have h2 : a2 = [.int .i64 x.clause] := h2
  subst h2
  obtain ⟨a3, t3, rfl, h3, h⟩ := h
  have hv_ := one_of (Rep.len _ _ h3)
  obtain ⟨v3, rfl⟩ := hv_
  have hv_ := Rep.sl h3
  obtain ⟨b3, c3, rfl, s3⟩ := hv_
  rw [List.length_map] at s3
  obtain ⟨a4, t4, rfl, h4, h⟩ := h
  have hv_ := one_of (Rep.len _ _ h4)
  obtain ⟨v4, rfl⟩ := hv_
  have hv_ := Rep.sl h4
  obtain ⟨b4, c4, rfl, s4⟩ := hv_
  rw [List.length_map] at s4
  obtain ⟨a5, t5, rfl, h5, h⟩ := h
  have hv_ := one_of (Rep.len _ _ h5)
  obtain ⟨v5, rfl⟩ := hv_
  have hv_ := Rep.sl h5
  obtain ⟨b5, c5, rfl, s5⟩ := hv_
  rw [List.length_map] at s5
  obtain rfl : t5 = [] := h
  exact ⟨((b1, c1), (b3, c3), (b4, c4), (b5, c5)), by simp [RuD.cs], ⟨s1, s3, s4, s5⟩⟩
theorem RuD.rep {x : RuD} {cs : List Value} (h : Rep μ x.d cs) : RepV μ x.d (.agg cs.toArray) := by
  rw [RuD.d_eq] at h ⊢; exact ⟨cs, rfl, h⟩
theorem RuD.invR {x : RuD} {cs : List Value} (h : Rep μ x.d cs) : ∃ p : RuD.P, cs = x.cs p ∧ RepV μ x.d (.agg (x.cs p).toArray) := by
  have hv_ := RuD.invA h
  obtain ⟨p, e, _⟩ := hv_
  subst e
  exact ⟨p, rfl, RuD.rep h⟩
theorem RuD.inv {x : RuD} {v : Value} (h : RepV μ x.d v) : ∃ p : RuD.P, v = .agg #[.string x.rel, .slice p.1.1 x.hargs.length p.1.2, .int .i64 x.clause, .slice p.2.1.1 x.vals.length p.2.1.2, .slice p.2.2.1.1 x.pos.length p.2.2.1.2, .slice p.2.2.2.1 x.neg.length p.2.2.2.2] ∧ RuD.At μ x p := by
  have h2 : ∃ cs, v = .agg (List.toArray cs) ∧ Rep μ x.d cs := by rw [RuD.d_eq] at h ⊢; exact h
  obtain ⟨cs, rfl, h3⟩ := h2
  have hv_ := RuD.invA h3
  obtain ⟨p, rfl, hA⟩ := hv_
  exact ⟨p, rfl, hA⟩
theorem RuD.invV {x : RuD} {v : Value} (h : RepV μ x.d v) : ∃ p : RuD.P, v = .agg #[.string x.rel, .slice p.1.1 x.hargs.length p.1.2, .int .i64 x.clause, .slice p.2.1.1 x.vals.length p.2.1.2, .slice p.2.2.1.1 x.pos.length p.2.2.1.2, .slice p.2.2.2.1 x.neg.length p.2.2.2.2] := by
  have hv_ := RuD.inv h
  obtain ⟨p, h, _⟩ := hv_
  exact ⟨p, h⟩
theorem RuD.elemA {l : List RuD} {base : Option Addr} {n : Nat} (h : Sl μ 6 base n (l.map RuD.d)) {i : Nat} {x : RuD} (hx : l[i]? = some x) : ∃ ad, ∃ p : RuD.P, ElemAt μ base n 6 i ad (x.cs p) ∧ RepV μ x.d (.agg (x.cs p).toArray) ∧ RuD.At μ x p := by
  have hv_ := h.get i x.d (by simp [hx])
  obtain ⟨ad, cs, h1, h2⟩ := hv_
  have hv_ := RuD.invA h2
  obtain ⟨p, rfl, hA⟩ := hv_
  exact ⟨ad, p, h1, RuD.rep h2, hA⟩
theorem RuD.elem {l : List RuD} {base : Option Addr} {n : Nat} (h : Sl μ 6 base n (l.map RuD.d)) {i : Nat} {x : RuD} (hx : l[i]? = some x) : ∃ ad, ∃ p : RuD.P, ElemAt μ base n 6 i ad (x.cs p) ∧ RepV μ x.d (.agg (x.cs p).toArray) := by
  have hv_ := RuD.elemA h hx
  obtain ⟨ad, p, h1, h2, _⟩ := hv_
  exact ⟨ad, p, h1, h2⟩
end
end Go.Vx

/- Contracts: ground rules, the reference's side: numbers of ways, values, simple goals, what lies in a universe. -/
namespace Go.Vx
open Go.Proofs Classical
section
variable {μ : Mem}
/-- The lengths of a simple goal's terms. -/
structure SimpleLen (k : Int) (n : Nat) : Prop where
  two : k = 2 ∨ k = 3 ∨ k = 6 → n = 2
  one : k = 4 ∨ k = 5 → n = 1
end
end Go.Vx

/- Contracts: ground rules, the reference's side: one rule. -/
namespace Go.Vx
open Go.Proofs Classical
/-- A goal that may stand in a clause. -/
structure ClG (g : Gl) : Prop where
  sh : g.Sh
  one : g.kind ≠ 7 ∧ g.kind ≠ 8
section
variable {μ : Mem}
end
end Go.Vx

/- Contracts: ground terms, universes, relations found, facts of a program: both sides. -/
namespace Go.Vx
open Go.Proofs Classical
/-- A ground term, as data. -/
def GndT (t : Tm) : Prop := t.Ok ∧ t.toT.vars = []
structure UnivOk (l : List Tm) : Prop where
  pos : 1 ≤ l.length
  max : l.length ≤ 8
  gnd : ∀ t ∈ l, GndT t
  asc : ∀ (i : Nat) x y, l[i]? = some x → l[i + 1]? = some y → x.toT.cmp y.toT < 0
/-- The universe as terms. -/
theorem UnivOk.lift {l : List Tm} (h : UnivOk l) : ∃ U : List T, l = U.map T.tm ∧ (∀ x ∈ U, x.ok ∧ x.vars = []) ∧ U.length = l.length := by
  have hv_ := lift_ok fun t ht => (h.gnd t ht).1
  obtain ⟨U, rfl, hU⟩ := hv_
  refine ⟨U, rfl, fun x hx => ⟨hU x hx, ?_⟩, by rw [List.length_map]⟩
  have := (h.gnd x.tm (List.mem_map_of_mem hx)).2
  rwa [T.toT_tm] at this
def relFor (p : Pg) (f : Fc) : Prop := ∃ (k : Nat) (r : Rl), relAt p f.rel = (k : Int) ∧ p.rels[k]? = some r ∧ r.arity = (f.args.length : Int)
/-- A fact of a well-formed program. -/
def FactFits (p : Pg) (f : Fc) : Prop := relFor p f ∧ ∀ t ∈ f.args, GndT t
noncomputable def Fc.f (x : Fc) : F := ⟨x.rel, x.args.map Tm.toT⟩
theorem FactFits.lift {p : Pg} {x : Fc} (h : FactFits p x) : x.f.fc = x ∧ ∀ a ∈ x.f.args, a.ok ∧ a.vars = [] := by
  have hv_ := lift_ok fun t ht => (h.2 t ht).1
  obtain ⟨xs, hxs, hok⟩ := hv_
  have e : x.f.args = xs := by show x.args.map Tm.toT = xs; rw [hxs, toTs_tm]
  refine ⟨?_, fun a ha => ?_⟩
  · show Fc.mk x.rel (x.f.args.map T.tm) = x
    rw [e, ← hxs]
  · rw [e] at ha
    refine ⟨hok a ha, ?_⟩
    have := (h.2 a.tm (by rw [hxs]; exact List.mem_map_of_mem ha)).2
    rwa [T.toT_tm] at this
section
variable {μ : Mem}
def UnivTo (l : List Tm) (i : Nat) : Prop := ∀ j, j < i → (∀ t, l[j]? = some t → GndT t) ∧ ∀ k x y, k + 1 = j → l[k]? = some x → l[j]? = some y → x.toT.cmp y.toT < 0
theorem UnivTo.all {l : List Tm} (h : UnivTo l l.length) (h1 : 1 ≤ l.length) (h8 : l.length ≤ 8) : UnivOk l where
  pos := h1
  max := h8
  gnd t ht := by
    have hv_ := List.mem_iff_getElem?.1 ht
    obtain ⟨j, hj⟩ := hv_
    exact (h j (List.getElem?_eq_some_iff.1 hj).1).1 t hj
  asc i x y hx hy := (h (i + 1) (List.getElem?_eq_some_iff.1 hy).1).2 i x y rfl hx hy
theorem UnivOk.to {l : List Tm} (h : UnivOk l) (i : Nat) : UnivTo l i := fun j _ => ⟨fun t ht => h.gnd t (mem_at ht), fun k x y hk hx hy => by subst hk; exact h.asc k x y hx hy⟩
/-! ### Relations -/
end
end Go.Vx

/- Plain: groundness: rows as sets of bits; one step; the rows in the end. -/
namespace Go.Vx
open Go.Proofs Classical
/-! ### Numbers with given bits -/
noncomputable def numTo (P : Nat → Prop) : Nat → Nat
  | 0 => 0
  | n + 1 => numTo P n + if P n then 2 ^ n else 0
theorem numTo_lt (P : Nat → Prop) : ∀ n, numTo P n < 2 ^ n
  | 0 => by simp [numTo]
  | n + 1 => by
    have h := numTo_lt P n
    have e : 2 ^ (n + 1) = 2 ^ n + 2 ^ n := by rw [Nat.pow_succ]; omega
    rw [numTo, e]
    split <;> omega
theorem numTo_bit (P : Nat → Prop) : ∀ n k, (numTo P n).testBit k = decide (k < n ∧ P k)
  | 0, k => by simp [numTo]
  | n + 1, k => by
    have ih := numTo_bit P n k
    have hlt := numTo_lt P n
    rw [numTo]
    split
    · rename_i h
      rw [Nat.add_comm]
      rcases Nat.lt_trichotomy k n with h1 | h1 | h1
      · rw [Nat.testBit_two_pow_add_gt h1, ih]
        congr 1
        exact propext ⟨fun k => ⟨by omega, k.2⟩, fun k => ⟨h1, k.2⟩⟩
      · subst h1
        rw [Nat.testBit_two_pow_add_eq, ih]
        simp [h]
      · rw [Nat.testBit_lt_two_pow]
        · simp; omega
        · have : 2 ^ (n + 1) ≤ 2 ^ k := Nat.pow_le_pow_right (by omega) h1
          rw [Nat.pow_succ] at this; omega
    · rename_i h
      rw [Nat.add_zero, ih]
      congr 1
      refine propext ⟨fun g => ⟨by omega, g.2⟩, fun g => ⟨?_, g.2⟩⟩
      have : k ≠ n := fun e => by subst e; exact h g.2
      omega
theorem eq_numTo {P : Nat → Prop} {n m : Nat} (hm : m < 2 ^ n) (h : ∀ k, k < n → (m.testBit k = true ↔ P k)) : m = numTo P n := by
  refine Nat.eq_of_testBit_eq fun k => ?_
  rw [numTo_bit]
  by_cases hk : k < n
  · rw [Bool.eq_iff_iff, h k hk, decide_eq_true_eq]; simp [hk]
  · have : 2 ^ n ≤ 2 ^ k := Nat.pow_le_pow_right (by omega) (by omega)
    rw [Nat.testBit_lt_two_pow (by omega)]
    simp [hk]
/-! ### Groundness -/
/-- Every variable of a term is in the set. -/
def gndBy (s : Nat) (x : T) : Prop := ∀ n ∈ x.vars, s.testBit n.toNat = true
def fitEq (s : Nat) : T → T → Prop
  | .pair a b, .pair c d => fitEq s a c ∧ fitEq s b d
  | x, y => if x.tm.kind = 1 ∨ y.tm.kind = 1 then (gndBy s x ↔ gndBy s y) else x = y
noncomputable def callRow (s : Nat) (l : List T) : Nat → Nat := numTo fun i => ∃ x, l[i]? = some x ∧ gndBy s x
/-- A set fits a goal of a clause. -/
noncomputable def fitG (p : Pg) (rows : List Nat) (s : Nat) (g : Gl) : Prop :=
  if g.kind = 2 then ∃ x y, g.terms = [x, y] ∧ fitEq s x.toT y.toT
  else if g.kind = 9 then ∃ n, rows[(relAt p g.name).toNat]? = some n ∧ n.testBit (callRow s (g.terms.map Tm.toT) g.terms.length) = true
  else True
/-- A row of a relation that one step finds. -/
def rowHit (p : Pg) (rows : List Nat) (r : Rl) (k : Nat) : Prop :=
  ∃ s L c, s < 2 ^ (r.arity + r.locals).toNat ∧ s % 2 ^ r.arity.toNat = k ∧ r.body.cl = some L ∧ c ∈ L ∧ ∀ g ∈ c, fitG p rows s g
end Go.Vx

/- Contracts: groundness by a set of variables: terms and equations, both sides. -/
namespace Go.Vx
open Go.Proofs Classical
/-! ### Plain: bits -/
/-- Small variables. -/
def Low (x : T) : Prop := ∀ n ∈ x.vars, 0 ≤ n ∧ n ≤ 60
theorem Low.arg {x y : T} (h : Low x) (hy : y ∈ x.args) : Low y := fun n hn => by
  cases x with
  | pair a b =>
    simp only [T.args, List.mem_cons, List.not_mem_nil, or_false] at hy
    refine h n ?_
    rw [T.vars, List.mem_append]
    rcases hy with rfl | rfl
    · exact .inl hn
    · exact .inr hn
  | _ => simp [T.args] at hy
theorem Low.var {x : T} (h : Low x) (hk : x.tm.kind = 1) : 0 ≤ x.tm.num ∧ x.tm.num ≤ 60 := by
  cases x with
  | var n => exact h n (by simp [T.vars])
  | _ => simp [T.tm, Tm.kind] at hk
section
variable {μ : Mem}
end
end Go.Vx

/- Contracts: groundness: goals and clauses that fit a set, both sides. -/
namespace Go.Vx
open Go.Proofs Classical
/-! ### Plain -/
def Gl.single (x : Gl) : Prop := x.kind ≠ 0 ∧ x.kind ≠ 1 ∧ x.kind ≠ 7 ∧ x.kind ≠ 8
mutual
theorem Gl.cl_all : ∀ (g : Gl) {L : List (List Gl)}, g.cl = some L → ∀ c ∈ L, ∀ x ∈ c, x ∈ g.all ∧ x.single
  | .mk k s ts gs, L, h => by
    have hsub : ∀ y ∈ gs, ∀ x ∈ y.all, x ∈ (Gl.mk k s ts gs).all := fun y hy x hx => by
      rw [Gl.all_eq]
      exact List.mem_cons_of_mem _ (List.mem_flatMap.2 ⟨y, hy, hx⟩)
    rw [Gl.cl] at h
    split at h
    · cases h; simp
    rename_i h0
    split at h
    · cases h; simp
    rename_i h1
    split at h
    · exact Gl.clOr_all gs (fun x => x ∈ (Gl.mk k s ts gs).all ∧ x.single) (fun y hy x hx hs => ⟨hsub y hy x hx, hs⟩) (by simp) h
    rename_i h8
    split at h
    · exact Gl.clAnd_all gs (fun x => x ∈ (Gl.mk k s ts gs).all ∧ x.single) (fun y hy x hx hs => ⟨hsub y hy x hx, hs⟩) (by simp) h
    · rename_i h7
      cases h
      intro c hc x hx
      rw [List.mem_singleton.1 hc] at hx
      rw [List.mem_singleton.1 hx]
      exact ⟨by rw [Gl.all_eq]; simp, h0, h1, h7, h8⟩
theorem Gl.clOr_all : ∀ (gs : List Gl) (Q : Gl → Prop) {acc L : List (List Gl)}, (∀ y ∈ gs, ∀ x ∈ y.all, x.single → Q x) → (∀ c ∈ acc, ∀ x ∈ c, Q x) → Gl.clOr gs acc = some L → ∀ c ∈ L, ∀ x ∈ c, Q x
  | [], Q, acc, L, _, h1, h => by
    rw [Gl.clOr] at h; cases h; exact h1
  | g :: gs, Q, acc, L, hQ, h1, h => by
    rw [Gl.clOr] at h
    cases e : g.cl with
    | none => rw [e] at h; cases h
    | some l =>
      rw [e, Option.bind_some] at h
      have hb := Gl.cl_all g e
      split at h
      · exact Gl.clOr_all gs Q (acc := acc ++ l) (fun y hy => hQ y (by simp [hy])) (fun c hc x hx => by
          rcases List.mem_append.1 hc with hc | hc
          · exact h1 c hc x hx
          · exact hQ g (by simp) x (hb c hc x hx).1 (hb c hc x hx).2) h
      · cases h
theorem Gl.clAnd_all : ∀ (gs : List Gl) (Q : Gl → Prop) {acc L : List (List Gl)}, (∀ y ∈ gs, ∀ x ∈ y.all, x.single → Q x) → (∀ c ∈ acc, ∀ x ∈ c, Q x) → Gl.clAnd gs acc = some L → ∀ c ∈ L, ∀ x ∈ c, Q x
  | [], Q, acc, L, _, h1, h => by
    rw [Gl.clAnd] at h; cases h; exact h1
  | g :: gs, Q, acc, L, hQ, h1, h => by
    rw [Gl.clAnd] at h
    cases e : g.cl with
    | none => rw [e] at h; cases h
    | some l =>
      rw [e, Option.bind_some] at h
      have hb := Gl.cl_all g e
      split at h
      · exact Gl.clAnd_all gs Q (acc := prodC acc l) (fun y hy => hQ y (by simp [hy])) (fun c hc => by
          have hv_ := prodC_mem hc
          obtain ⟨u, hu, w, hw, rfl⟩ := hv_
          intro x hx
          rcases List.mem_append.1 hx with hx | hx
          · exact h1 u hu x hx
          · exact hQ g (by simp) x (hb w hw x hx).1 (hb w hw x hx).2) h
      · cases h
end
/-- A goal that may stand in a clause of a program whose rows these are. -/
structure GOk (p : Pg) (rows : List Nat) (g : Gl) : Prop where
  sh : g.Sh
  one : g.single
  low : ∀ t ∈ g.terms, Low t.toT
  rel : g.kind = 9 → ∃ k n : Nat, relAt p g.name = (k : Int) ∧ rows[k]? = some n ∧ n < 65536
theorem GOk.of {p : Pg} (hp : p.Ok) {rows : List Nat} (hl : rows.length = p.rels.length) (hr : ∀ n ∈ rows, n < 65536) {i : Nat} {r : Rl} (hi : p.rels[i]? = some r) {L : List (List Gl)} (hL : r.body.cl = some L) {c : List Gl} (hc : c ∈ L) {g : Gl} (hg : g ∈ c) : GOk p rows g := by
  have hrel := hp.2 i r hi
  have hv_ := Gl.cl_all r.body hL c hc g hg
  obtain ⟨h1, h2⟩ := hv_
  have hsh := hrel.body.all _ g h1
  refine ⟨hsh, h2, fun t ht n hn => ?_, fun h9 => ?_⟩
  · have hv : n ∈ r.body.vars := by
      rw [Gl.vars]
      exact List.mem_flatMap.2 ⟨g, h1, List.mem_flatMap.2 ⟨t.toT, List.mem_map.2 ⟨t, ht, rfl⟩, hn⟩⟩
    have hlt := hrel.vars n hv
    have hge := Gl.vars_range hrel.body n hv
    have := hrel.ar4; have := hrel.lo8
    omega
  · have hv_ := hrel.calls.all g h1 h9
    obtain ⟨k, q, hk, hq, _⟩ := hv_
    have hlen := (List.getElem?_eq_some_iff.1 hq).1
    have hv_ := at_some (l := rows) (i := k) (by omega)
    obtain ⟨n, hn⟩ := hv_
    exact ⟨k, n, hk, hn, hr n (mem_at hn)⟩
section
variable {μ : Mem}
end
end Go.Vx

/- Contracts: one step of groundness, both sides. -/
namespace Go.Vx
open Go.Proofs Classical
/-! ### Plain -/
/-- A number whose bits are the rows of the pairs that are done and fit. -/
structure BitsOf (p : Pg) (rows : List Nat) (a N : Nat) (D : Nat → List Gl → Prop) : Prop where
  lt : N < 2 ^ (2 ^ a)
  bit : ∀ k, k < 2 ^ a → (N.testBit k = true ↔ ∃ s c, D s c ∧ s % 2 ^ a = k ∧ ∀ g ∈ c, fitG p rows s g)
section
variable {p : Pg} {rows : List Nat} {a N : Nat} {D D' : Nat → List Gl → Prop}
theorem BitsOf.zero (h : ∀ s c, ¬ D s c) : BitsOf p rows a 0 D where
  lt := Nat.two_pow_pos _
  bit := fun k _ => by
    simp only [Nat.zero_testBit, Bool.false_eq_true, false_iff]
    rintro ⟨s, c, h1, _⟩
    exact h s c h1
theorem BitsOf.congr (h : BitsOf p rows a N D) (e : ∀ s c, D' s c ↔ D s c) : BitsOf p rows a N D' where
  lt := h.lt
  bit := fun k hk => by simp only [e]; exact h.bit k hk
end
def DI (L : List (List Gl)) (M j b : Nat) (s : Nat) (c : List Gl) : Prop := (c ∈ L.take j ∧ s < M) ∨ (L[j]? = some c ∧ s < b)
def DS (L : List (List Gl)) (s0 j : Nat) (s : Nat) (c : List Gl) : Prop := (s < s0 ∧ c ∈ L) ∨ (s = s0 ∧ c ∈ L.take j)
theorem DI.next {L : List (List Gl)} {M j b : Nat} {c0 : List Gl} (h : L[j]? = some c0) (s : Nat) (c : List Gl) : DI L M j (b + 1) s c ↔ DI L M j b s c ∨ (s = b ∧ c = c0) := by
  unfold DI
  rw [h]
  constructor
  · rintro (k | ⟨k1, k2⟩)
    · exact .inl (.inl k)
    · cases k1
      rcases Nat.lt_or_ge s b with k3 | k3
      · exact .inl (.inr ⟨rfl, k3⟩)
      · exact .inr ⟨by omega, rfl⟩
  · rintro ((k | ⟨k1, k2⟩) | ⟨rfl, rfl⟩)
    · exact .inl k
    · exact .inr ⟨k1, by omega⟩
    · exact .inr ⟨rfl, by omega⟩
theorem DS.next {L : List (List Gl)} {s0 j : Nat} {c0 : List Gl} (h : L[j]? = some c0) (s : Nat) (c : List Gl) : DS L s0 (j + 1) s c ↔ DS L s0 j s c ∨ (s = s0 ∧ c = c0) := by
  unfold DS
  rw [List.take_add_one, h, Option.toList_some, List.mem_append, List.mem_singleton]
  constructor
  · rintro (k | ⟨rfl, k | rfl⟩)
    · exact .inl (.inl k)
    · exact .inl (.inr ⟨rfl, k⟩)
    · exact .inr ⟨rfl, rfl⟩
  · rintro ((k | ⟨rfl, k⟩) | ⟨rfl, rfl⟩)
    · exact .inl k
    · exact .inr ⟨rfl, .inl k⟩
    · exact .inr ⟨rfl, .inr rfl⟩
/-- What the pairs of a relation's clauses and sets make is its row. -/
theorem BitsOf.row {p : Pg} {rows : List Nat} {r : Rl} {L : List (List Gl)} (hL : r.body.cl = some L) {a l N : Nat} (ha : r.arity = (a : Int)) (hl : r.locals = (l : Int)) {D : Nat → List Gl → Prop} (h : BitsOf p rows a N D) (e : ∀ s c, D s c ↔ c ∈ L ∧ s < 2 ^ (a + l)) : N = numTo (rowHit p rows r) (2 ^ r.arity.toNat) := by
  have e1 : r.arity.toNat = a := by omega
  have e2 : (r.arity + r.locals).toNat = a + l := by omega
  rw [e1]
  refine eq_numTo h.lt fun k hk => ?_
  rw [h.bit k hk]
  constructor
  · rintro ⟨s, c, h1, h2, h3⟩
    have hv_ := (e s c).1 h1
    obtain ⟨h4, h5⟩ := hv_
    exact ⟨s, L, c, by rw [e2]; exact h5, by rw [e1]; exact h2, hL, h4, h3⟩
  · rintro ⟨s, L', c, h1, h2, h3, h4, h5⟩
    rw [hL] at h3
    cases h3
    rw [e2] at h1
    rw [e1] at h2
    exact ⟨s, c, (e s c).2 ⟨h4, h1⟩, h2, h5⟩
/-- A program and rows that fit it. -/
structure RowsIn (p : Pg) (rows : List Nat) : Prop where
  ok : p.Ok
  cls : ∀ r ∈ p.rels, r.body.cl ≠ none
  len : rows.length = p.rels.length
  lt : ∀ n ∈ rows, n < 65536
section
variable {μ : Mem}
end
end Go.Vx

/- Contracts: facts of a program, ground rules: the reference's side. -/
namespace Go.Vx
open Go.Proofs Classical
section
variable {μ : Mem}
/-- The relation of a fact. -/
theorem relFor_at {p : Pg} {f : Fc} {k : Nat} (hk : relAt p f.rel = (k : Int)) {r : Rl} (hr : p.rels[k]? = some r) : relFor p f ↔ r.arity = (f.args.length : Int) := by
  constructor
  · rintro ⟨k', r', h1, h2, h3⟩
    have e : k' = k := by omega
    rw [e, hr] at h2; cases h2; exact h3
  · exact fun h => ⟨k, r, hk, hr, h⟩
theorem relAt_get {p : Pg} {s : ByteArray} (h : 0 ≤ relAt p s) : ∃ (k : Nat) (r : Rl), relAt p s = (k : Int) ∧ p.rels[k]? = some r ∧ r.name = s := by
  have hv_ := relFrom_some (l := p.rels) (i := 0) (s := s) h
  obtain ⟨j, r, h1, h2, h3⟩ := hv_
  exact ⟨j, r, by rw [relAt, h1]; congr 1; omega, h2, h3⟩
end
end Go.Vx

/- Contracts: well-formed tables, both sides. -/
namespace Go.Vx
open Go.Proofs Classical
def AnsTo (t : Tb) (i : Nat) : Prop := ∀ (j : Nat) (a : Ts), j < i → t.answers[j]? = some a → a.ts.length = t.args.length ∧ CanL a.ts ∧ ¬ ∃ b ∈ t.answers.take j, b.ts = a.ts
def TabOk (p : Pg) (t : Tb) : Prop := relFor p ⟨t.rel, t.args⟩ ∧ CanL t.args ∧ t.answers.length ≤ 60 ∧ AnsTo t t.answers.length
def TabsTo (p : Pg) (l : List Tb) (i : Nat) : Prop := ∀ (j : Nat) (t : Tb), j < i → l[j]? = some t → TabOk p t ∧ ∀ u ∈ l.take j, ¬ (u.rel = t.rel ∧ u.args = t.args)
/-- Tables of a pure program. -/
def TabsP (p : Pg) (l : List Tb) : Prop := p.Pure ∧ l.length ≤ 40 ∧ (∀ r ∈ p.rels, r.body.cl ≠ none) ∧ TabsTo p l l.length
theorem AnsTo.next {t : Tb} {i : Nat} {a : Ts} (h : AnsTo t i) (ha : t.answers[i]? = some a) (k : a.ts.length = t.args.length ∧ CanL a.ts ∧ ¬ ∃ b ∈ t.answers.take i, b.ts = a.ts) : AnsTo t (i + 1) := fun j b hj hb => by
  rcases Nat.lt_or_ge j i with h6 | h6
  · exact h j b h6 hb
  · obtain rfl : j = i := by omega
    rw [ha] at hb; cases hb; exact k
theorem TabsTo.next {p : Pg} {l : List Tb} {i : Nat} {t : Tb} (h : TabsTo p l i) (ht : l[i]? = some t) (k : TabOk p t ∧ ∀ u ∈ l.take i, ¬ (u.rel = t.rel ∧ u.args = t.args)) : TabsTo p l (i + 1) := fun j b hj hb => by
  rcases Nat.lt_or_ge j i with h6 | h6
  · exact h j b h6 hb
  · obtain rfl : j = i := by omega
    rw [ht] at hb; cases hb; exact k
theorem Tb.bounds {l : List Tb} (hb : l.length + D.szs (l.map Tb.d) ≤ 1048576) {i : Nat} {t : Tb} (ht : l[i]? = some t) : t.args.length ≤ 1048576 ∧ t.answers.length ≤ 1048576 ∧ ∀ (j : Nat) a, t.answers[j]? = some a → a.ts.length ≤ 1048576 := by
  have h1 := D.szs_mem (at_map (f := Tb.d) ht)
  have h2 := Tb.sz_eq t
  refine ⟨by omega, by omega, fun j a ha => ?_⟩
  have h3 := D.szs_mem (at_map (f := Ts.d) ha)
  have h4 : a.d.sz = a.ts.length + D.szs (a.ts.map Tm.d) := by rw [Ts.d_eq, D.sz, List.length_map]
  omega
theorem Tb.wds {l : List Tb} (hw : D.wds (l.map Tb.d)) {i : Nat} {t : Tb} (ht : l[i]? = some t) : D.wds (t.args.map Tm.d) ∧ ∀ (j : Nat) a, t.answers[j]? = some a → D.wds (a.ts.map Tm.d) := by
  have h1 := D.wds_mem hw _ (mem_at (at_map (f := Tb.d) ht))
  rw [Tb.d_eq] at h1
  exact ⟨h1.2.1, fun j a ha => D.wds_mem h1.2.2.1 _ (mem_at (at_map (f := Ts.d) ha))⟩
section
variable {μ : Mem}
set_option maxHeartbeats 4000000 in
theorem spec_TablesOk_spec {p : Pg} {l : List Tb} {v : Value} {tb : Option Addr} {tc : Nat} (hp : RepV μ p.d v) (hw : p.d.wd) (hsl : Sl μ 3 tb l.length (l.map Tb.d)) (hwl : D.wds (l.map Tb.d)) (hbd : l.length + D.szs (l.map Tb.d) ≤ 1048576) :
    Spec Tryz.prog 56 [v, .slice tb l.length tc] μ fun r _ => r = .bool (decide (TabsP p l)) := by
  have hp0 := hp
  have hv_ := Pg.inv hp
  obtain ⟨q, rfl, hrl⟩ := hv_
  refine Spec.mk Tryz.func56 (by kernel_rfl) ?_
  intro r2
  refine call_plain (spec_IsPure_spec hp0 hw) fun v1 μ1 hle1 hR => ?_
  obtain rfl := hR
  refine ifnd (fun h => ret_plain (isF fun k => h k.1)) (fun hpure => ?_)
  have hok := hpure.1
  have hn := hok.1
  refine ifd (fun h => ret_plain (isF fun k => by have := k.2.1; omega)) (fun hlen => ?_)
  have hw2 : D.wds (p.rels.map Rl.d) := by rw [Pg.d_eq] at hw; exact hw.1
  refine loop_intro (fun s : Nat × Mem => s.1 ≤ p.rels.length ∧ μ.Le s.2 ∧ ∀ (j : Nat) x, j < s.1 → p.rels[j]? = some x → x.body.cl ≠ none)
    (fun (i, μ') => ⟨[(1, .val (.slice tb l.length tc)), (2, .loc 0 r2 0), (23, .val (.slice q.1 p.rels.length q.2)), (24, .val (.int .i64 p.rels.length)), (25, .val (.int .i64 i))], [(0, some (.cells r2 [.val (.slice q.1 p.rels.length q.2)] 67))], 1, μ', Mem.nil⟩) (fun s => p.rels.length - s.1)
    (0, μ1) ⟨Nat.zero_le _, hle1, fun j x h => by dsimp only at h; omega⟩ (fun (_, _) => ⟨rfl, rfl⟩) ⟨⟨rfl, rfl, rfl, rfl, rfl, trivial⟩, ⟨rfl, trivial⟩, rfl, rfl⟩ ?_
  rintro ⟨i, μ'⟩ ⟨hi, hle, hall⟩
  dsimp only at hi hle hall
  refine ifd (fun hlt => ?_) (fun hlt => ?_)
  · have hv_ := at_some (l := p.rels) (i := i) (by omega)
    obtain ⟨x, hx⟩ := hv_
    have hv_ := Rl.elemA (hrl.mono hle) hx
    obtain ⟨ad, q2, hel, hr, hb⟩ := hv_
    have hb : RepV μ' x.body.d (.agg (x.body.cs q2).toArray) := hb
    have hrok := hok.2 i x hx
    have hbw : x.body.d.wd := by
      have h := D.wds_mem hw2 _ (mem_at (at_map (f := Rl.d) hx))
      rw [Rl.d_eq] at h; exact h.2.2.2.1
    refine elem_intro hel ?_
    intro r6
    refine call_plain (ClausesOf_spec hb hbw ⟨hrok.body, by have := hrok.size; omega⟩) fun v1 μ1 hle1 hR => ?_
    cases e : x.body.cl with
    | none =>
      rw [e] at hR
      obtain rfl := hR
      refine if_intro (fun _ => ?_) (fun h => nomatch h)
      exact ret_plain (isF fun k => k.2.2.1 x (mem_at hx) e)
    | some L =>
      rw [e] at hR
      obtain ⟨tv, rfl, hLr⟩ := hR
      have hv_ := hLr.inv
      obtain ⟨pv, rfl⟩ := hv_
      refine if_intro (fun h => nomatch h) (fun _ => ?_)
      refine num64 (by omega) (by omega) ⟨(i + 1, μ1), ⟨by dsimp only; omega, hle.trans hle1, fun j y hj hy => ?_⟩, by dsimp only; omega, ⟨⟨rfl, rfl, rfl, rfl, rfl, trivial⟩, ⟨rfl, trivial⟩, rfl, rfl⟩⟩
      rcases Nat.lt_or_ge j i with h6 | h6
      · exact hall j y h6 hy
      · obtain rfl : j = i := by omega
        rw [hx] at hy; cases hy; rw [e]; exact fun h => nomatch h
  obtain rfl : i = p.rels.length := by omega
  have hcls : ∀ r ∈ p.rels, r.body.cl ≠ none := fun x hx => by
    have hv_ := List.mem_iff_getElem?.1 hx
    obtain ⟨j, hj⟩ := hv_
    exact hall j x (List.getElem?_eq_some_iff.1 hj).1 hj
  clear hall hlt hi
  replace hrl := hrl.mono hle
  replace hp0 := hp0.mono hle
  replace hsl := hsl.mono hle
  refine loop_intro (fun i : Nat => i ≤ l.length ∧ TabsTo p l i)
    (fun i => ⟨[(1, .val (.slice tb l.length tc)), (2, .loc 0 r2 0), (38, .val (.slice tb l.length tc)), (39, .val (.int .i64 l.length)), (40, .val (.int .i64 i))], [(0, some (.cells r2 [.val (.slice q.1 p.rels.length q.2)] 67))], 1, μ', Mem.nil⟩) (fun i => l.length - i)
    0 ⟨Nat.zero_le _, fun j t hj => by omega⟩ (fun _ => ⟨rfl, rfl⟩) ⟨⟨rfl, rfl, rfl, rfl, rfl, trivial⟩, ⟨rfl, trivial⟩, rfl, rfl⟩ ?_
  rintro i ⟨hi, hto⟩
  refine ifd (fun hlt => ?_) (fun hlt => ?_)
  rotate_left
  · obtain rfl : i = l.length := by omega
    exact ret_plain (isT ⟨hpure, by omega, hcls, hto⟩)
  have hv_ := at_some (l := l) (i := i) (by omega)
  obtain ⟨t, ht⟩ := hv_
  have hv_ := Tb.elemA hsl ht
  obtain ⟨ad, pt, hel, hrt, hA, hB⟩ := hv_
  have hbt := Tb.bounds hbd ht
  have hAC := Rep.lens (Tb.ansV hrt)
  have hAC : t.answers.length ≤ pt.2.2 := hAC
  refine elem_intro hel ?_
  intro r10
  refine call_gives (l14Find_spec hp0) ?_
  refine ifd (fun hneg => ret_plain (isF fun k => ?_)) (fun hge => ?_)
  · have hv_ := (k.2.2.2 i t (by omega) ht).1.1
    obtain ⟨k', r', h1, _⟩ := hv_
    have h1 : relAt p t.rel = (k' : Int) := h1
    omega
  have hv_ := relAt_get (show 0 ≤ relAt p t.rel by omega)
  obtain ⟨k, r, hk, hr, _⟩ := hv_
  have hfor := relFor_at (f := ⟨t.rel, t.args⟩) hk hr
  rw [hk]
  have hv_ := Rl.elemA hrl hr
  obtain ⟨ad2, q2, hel2, _, _⟩ := hv_
  refine elem_intro hel2 ?_
  refine ifnd (fun h => ret_plain (isF fun k => h (hfor.1 (k.2.2.2 i t (by omega) ht).1.1).symm)) (fun har => ?_)
  refine call_gives (l28Canonical_spec hA (Tb.wds hwl ht).1 (by have := hbt.1; omega)) ?_
  refine ifnd (fun h => ret_plain (isF fun k => h (k.2.2.2 i t (by omega) ht).1.2.1)) (fun hcan => ?_)
  have hargs : ∀ u ∈ l.take (i + 1), ∀ a ∈ u.args, a.Ok := by
    rw [List.take_add_one, ht, Option.toList_some]
    intro u hu
    rcases List.mem_append.1 hu with hu | hu
    · have hv_ := List.mem_iff_getElem?.1 hu
      obtain ⟨j, hj⟩ := hv_
      have hji := (List.getElem?_eq_some_iff.1 hj).1
      rw [List.length_take] at hji
      rw [List.getElem?_take, if_pos (by omega)] at hj
      exact (hto j u (by omega) hj).1.2.1.1
    · rw [List.mem_singleton.1 hu]; exact hcan.1
  refine call_plain (l28Find_spec hsl ht hargs hA) fun v4 μ4 hle4 hR4 => ?_
  obtain ⟨⟨k2, rfl, hk2⟩, e4⟩ := hR4
  obtain rfl := e4.symm
  refine ifnd (fun h => ret_plain (isF fun k => h ?_)) (fun hfound => ?_)
  · rw [hk2.2 (k.2.2.2 i t (by omega) ht).2]
  have hnew := hk2.1 (by omega)
  refine ifd (fun h => ret_plain (isF fun k => by have := (k.2.2.2 i t (by omega) ht).1.2.2.1; omega)) (fun h60 => ?_)
  refine loop_intro (fun j : Nat => j ≤ t.answers.length ∧ AnsTo t j)
    (fun j => ⟨[(1, .val (.slice tb l.length tc)), (2, .loc 0 r2 0), (10, .loc 1 r10 0), (38, .val (.slice tb l.length tc)), (39, .val (.int .i64 l.length)), (40, .val (.int .i64 i)), (86, .val (.slice pt.2.1 t.answers.length pt.2.2)), (87, .val (.int .i64 t.answers.length)), (88, .val (.int .i64 j))], [(0, some (.cells r2 [.val (.slice q.1 p.rels.length q.2)] 67)), (1, some (.cells r10 [.val (.string t.rel), .val (.slice pt.1.1 t.args.length pt.1.2), .val (.slice pt.2.1 t.answers.length pt.2.2)] 173))], 2, μ', Mem.nil⟩) (fun j => t.answers.length - j)
    0 ⟨Nat.zero_le _, fun j a hj => by omega⟩ (fun _ => ⟨rfl, rfl⟩) ⟨⟨rfl, rfl, rfl, rfl, rfl, rfl, rfl, rfl, rfl, trivial⟩, ⟨rfl, rfl, trivial⟩, rfl, rfl⟩ ?_
  rintro j ⟨hj, hans⟩
  refine ifd (fun hjlt => ?_) (fun hjlt => ?_)
  rotate_left
  · obtain rfl : j = t.answers.length := by omega
    exact num64 (by omega) (by omega) ⟨i + 1, ⟨by omega, hto.next ht ⟨⟨hfor.2 har.symm, hcan, by omega, hans⟩, hnew⟩⟩, by omega, ⟨⟨rfl, rfl, rfl, rfl, rfl, trivial⟩, ⟨rfl, trivial⟩, rfl, rfl⟩⟩
  have hv_ := at_some (l := t.answers) (i := j) (by omega)
  obtain ⟨a, ha⟩ := hv_
  have hv_ := Ts.elem hB ha
  obtain ⟨ad3, p3, hel3, hra⟩ := hv_
  have hv_ := Ts.inv hra
  obtain ⟨p4, e5, hs⟩ := hv_
  have hb34 : p3.1 = p4.1 := (Value.slice.inj e5).1
  rw [← hb34] at hs
  have hab := hbt.2.2 j a ha
  have hkey : TabsP p l → a.ts.length = t.args.length ∧ CanL a.ts ∧ ¬ ∃ b ∈ t.answers.take j, b.ts = a.ts := fun k => (k.2.2.2 i t (by omega) ht).1.2.2.2 j a (by omega) ha
  refine elem_intro hel3 ?_
  refine ifnd (fun h => ret_plain (isF fun k => h (by rw [(hkey k).1]))) (fun hal => ?_)
  refine call_gives (l28Canonical_spec hs ((Tb.wds hwl ht).2 j a ha) (by omega)) ?_
  refine ifnd (fun h => ret_plain (isF fun k => h (hkey k).2.1)) (fun hac => ?_)
  refine cut_intro 0 j rfl rfl (Nat.zero_le _) (by omega) ?_
  have hao : ∀ b ∈ t.answers.take j, ∀ y ∈ b.ts, y.Ok := fun b hb => by
    have hv_ := List.mem_iff_getElem?.1 hb
    obtain ⟨m, hm⟩ := hv_
    have hmj := (List.getElem?_eq_some_iff.1 hm).1
    rw [List.length_take] at hmj
    rw [List.getElem?_take, if_pos (by omega)] at hm
    exact (hans m b (by omega) hm).2.1.1
  refine call_gives (l28Known_spec (l := t.answers.take j) (by rw [List.length_take]; omega) (by rw [List.map_take]; exact hB.cut0 hj) hao hs hac.1) ?_
  refine ifd (fun h => ret_plain (isF fun k => (hkey k).2.2 h)) (fun hno => ?_)
  exact num64 (by omega) (by omega) ⟨j + 1, ⟨by omega, hans.next ha ⟨by omega, hac, hno⟩⟩, by omega, ⟨⟨rfl, rfl, rfl, rfl, rfl, rfl, rfl, rfl, rfl, trivial⟩, ⟨rfl, rfl, trivial⟩, rfl, rfl⟩⟩
set_option maxHeartbeats 4000000 in
theorem impl_TablesOk_spec {p : Pg} {l : List Tb} {v : Value} {tb : Option Addr} {tc : Nat} (hp : RepV μ p.d v) (hsl : Sl μ 3 tb l.length (l.map Tb.d)) (hcap : l.length ≤ tc) (hbd : l.length + D.szs (l.map Tb.d) ≤ 1048576) :
    Spec Tryz.prog 58 [v, .slice tb l.length tc] μ fun r _ => r = .bool (decide (TabsP p l)) := by
  have hp0 := hp
  have hv_ := Pg.inv hp
  obtain ⟨q, rfl, hrl⟩ := hv_
  refine Spec.mk Tryz.func58 (by kernel_rfl) ?_
  intro r2
  refine call_plain (impl_IsPure_spec hp0) fun v1 μ1 hle1 hR => ?_
  obtain rfl := hR
  refine ifnd (fun h => ret_plain (isF fun k => h k.1)) (fun hpure => ?_)
  have hok := hpure.1
  have hn := hok.1
  refine ifd (fun h => ret_plain (isF fun k => by have := k.2.1; omega)) (fun hlen => ?_)
  refine loop_intro (fun s : Nat × Mem => s.1 ≤ p.rels.length ∧ μ.Le s.2 ∧ ∀ (j : Nat) x, j < s.1 → p.rels[j]? = some x → x.body.cl ≠ none)
    (fun (i, μ') => ⟨[(1, .val (.slice tb l.length tc)), (2, .loc 0 r2 0), (23, .val (.slice q.1 p.rels.length q.2)), (24, .val (.int .i64 p.rels.length)), (25, .val (.int .i64 i))], [(0, some (.cells r2 [.val (.slice q.1 p.rels.length q.2)] 67))], 1, μ', Mem.nil⟩) (fun s => p.rels.length - s.1)
    (0, μ1) ⟨Nat.zero_le _, hle1, fun j x h => by dsimp only at h; omega⟩ (fun (_, _) => ⟨rfl, rfl⟩) ⟨⟨rfl, rfl, rfl, rfl, rfl, trivial⟩, ⟨rfl, trivial⟩, rfl, rfl⟩ ?_
  rintro ⟨i, μ'⟩ ⟨hi, hle, hall⟩
  dsimp only at hi hle hall
  refine ifd (fun hlt => ?_) (fun hlt => ?_)
  · have hv_ := at_some (l := p.rels) (i := i) (by omega)
    obtain ⟨x, hx⟩ := hv_
    have hv_ := Rl.elemA (hrl.mono hle) hx
    obtain ⟨ad, q2, hel, hr, hb⟩ := hv_
    have hb : RepV μ' x.body.d (.agg (x.body.cs q2).toArray) := hb
    have hrok := hok.2 i x hx
    refine elem_intro hel ?_
    intro r6
    refine call_plain (clausesOf_spec x.body hb hrok.body (by have := hrok.size; omega)) fun v1 μ1 hle1 hR => ?_
    cases e : x.body.cl with
    | none =>
      rw [e] at hR
      obtain rfl := hR
      refine if_intro (fun _ => ?_) (fun h => nomatch h)
      exact ret_plain (isF fun k => k.2.2.1 x (mem_at hx) e)
    | some L =>
      rw [e] at hR
      obtain ⟨tv, rfl, hLr⟩ := hR
      have hv_ := hLr.inv
      obtain ⟨pv, rfl⟩ := hv_
      refine if_intro (fun h => nomatch h) (fun _ => ?_)
      refine num64 (by omega) (by omega) ⟨(i + 1, μ1), ⟨by dsimp only; omega, hle.trans hle1, fun j y hj hy => ?_⟩, by dsimp only; omega, ⟨⟨rfl, rfl, rfl, rfl, rfl, trivial⟩, ⟨rfl, trivial⟩, rfl, rfl⟩⟩
      rcases Nat.lt_or_ge j i with h6 | h6
      · exact hall j y h6 hy
      · obtain rfl : j = i := by omega
        rw [hx] at hy; cases hy; rw [e]; exact fun h => nomatch h
  obtain rfl : i = p.rels.length := by omega
  have hcls : ∀ r ∈ p.rels, r.body.cl ≠ none := fun x hx => by
    have hv_ := List.mem_iff_getElem?.1 hx
    obtain ⟨j, hj⟩ := hv_
    exact hall j x (List.getElem?_eq_some_iff.1 hj).1 hj
  clear hall hlt hi
  replace hrl := hrl.mono hle
  replace hp0 := hp0.mono hle
  replace hsl := hsl.mono hle
  refine loop_intro (fun i : Nat => i ≤ l.length ∧ TabsTo p l i)
    (fun i => ⟨[(1, .val (.slice tb l.length tc)), (2, .loc 0 r2 0), (38, .val (.slice tb l.length tc)), (39, .val (.int .i64 l.length)), (40, .val (.int .i64 i))], [(0, some (.cells r2 [.val (.slice q.1 p.rels.length q.2)] 67))], 1, μ', Mem.nil⟩) (fun i => l.length - i)
    0 ⟨Nat.zero_le _, fun j t hj => by omega⟩ (fun _ => ⟨rfl, rfl⟩) ⟨⟨rfl, rfl, rfl, rfl, rfl, trivial⟩, ⟨rfl, trivial⟩, rfl, rfl⟩ ?_
  rintro i ⟨hi, hto⟩
  refine ifd (fun hlt => ?_) (fun hlt => ?_)
  rotate_left
  · obtain rfl : i = l.length := by omega
    exact ret_plain (isT ⟨hpure, by omega, hcls, hto⟩)
  have hv_ := at_some (l := l) (i := i) (by omega)
  obtain ⟨t, ht⟩ := hv_
  have hv_ := Tb.elemA hsl ht
  obtain ⟨ad, pt, hel, hrt, hA, hB⟩ := hv_
  have hbt := Tb.bounds hbd ht
  have hAC := Rep.lens (Tb.ansV hrt)
  have hAC : t.answers.length ≤ pt.2.2 := hAC
  refine elem_intro hel ?_
  intro r10
  refine call_gives (relation_spec hp0) ?_
  refine ifd (fun hneg => ret_plain (isF fun k => ?_)) (fun hge => ?_)
  · have hv_ := (k.2.2.2 i t (by omega) ht).1.1
    obtain ⟨k', r', h1, _⟩ := hv_
    have h1 : relAt p t.rel = (k' : Int) := h1
    omega
  have hv_ := relAt_get (show 0 ≤ relAt p t.rel by omega)
  obtain ⟨k, r, hk, hr, _⟩ := hv_
  have hfor := relFor_at (f := ⟨t.rel, t.args⟩) hk hr
  rw [hk]
  have hv_ := Rl.elemA hrl hr
  obtain ⟨ad2, q2, hel2, _, _⟩ := hv_
  refine elem_intro hel2 ?_
  refine ifnd (fun h => ret_plain (isF fun k => h (hfor.1 (k.2.2.2 i t (by omega) ht).1.1).symm)) (fun har => ?_)
  refine call_gives (canonicalOk_spec hA (by have := hbt.1; omega)) ?_
  refine ifnd (fun h => ret_plain (isF fun k => h (k.2.2.2 i t (by omega) ht).1.2.1)) (fun hcan => ?_)
  have hargs : ∀ u ∈ l.take (i + 1), ∀ a ∈ u.args, a.Ok := by
    rw [List.take_add_one, ht, Option.toList_some]
    intro u hu
    rcases List.mem_append.1 hu with hu | hu
    · have hv_ := List.mem_iff_getElem?.1 hu
      obtain ⟨j, hj⟩ := hv_
      have hji := (List.getElem?_eq_some_iff.1 hj).1
      rw [List.length_take] at hji
      rw [List.getElem?_take, if_pos (by omega)] at hj
      exact (hto j u (by omega) hj).1.2.1.1
    · rw [List.mem_singleton.1 hu]; exact hcan.1
  refine ifd (fun h => ret_plain (isF fun k => by have := (k.2.2.2 i t (by omega) ht).1.2.2.1; omega)) (fun h60 => ?_)
  refine cut_intro 0 i rfl rfl (Nat.zero_le _) (by omega) ?_
  refine call_plain (tableOf_spec (l := l.take i) (by rw [List.length_take]; omega) (by rw [List.map_take]; exact hsl.cut0 hi) (fun u hu => hargs u (List.take_subset_take_left l (Nat.le_succ i) hu)) hA hcan.1) fun v4 μ4 hle4 hR4 => ?_
  obtain ⟨⟨k2, rfl, hk2⟩, e4⟩ := hR4
  obtain rfl := e4.symm
  refine ifd (fun h => ret_plain (isF fun k => ?_)) (fun hfound => ?_)
  · have hv_ := hk2.1 h
    obtain ⟨u, hu, hu2⟩ := hv_
    exact (k.2.2.2 i t (by omega) ht).2 u hu hu2
  have hnew : ∀ u ∈ l.take i, ¬ (u.rel = t.rel ∧ u.args = t.args) := fun u hu hu2 => hfound (hk2.2 ⟨u, hu, hu2⟩)
  refine loop_intro (fun j : Nat => j ≤ t.answers.length ∧ AnsTo t j)
    (fun j => ⟨[(1, .val (.slice tb l.length tc)), (2, .loc 0 r2 0), (10, .loc 1 r10 0), (38, .val (.slice tb l.length tc)), (39, .val (.int .i64 l.length)), (40, .val (.int .i64 i)), (87, .val (.slice pt.2.1 t.answers.length pt.2.2)), (88, .val (.int .i64 t.answers.length)), (89, .val (.int .i64 j))], [(0, some (.cells r2 [.val (.slice q.1 p.rels.length q.2)] 67)), (1, some (.cells r10 [.val (.string t.rel), .val (.slice pt.1.1 t.args.length pt.1.2), .val (.slice pt.2.1 t.answers.length pt.2.2)] 173))], 2, μ', Mem.nil⟩) (fun j => t.answers.length - j)
    0 ⟨Nat.zero_le _, fun j a hj => by omega⟩ (fun _ => ⟨rfl, rfl⟩) ⟨⟨rfl, rfl, rfl, rfl, rfl, rfl, rfl, rfl, rfl, trivial⟩, ⟨rfl, rfl, trivial⟩, rfl, rfl⟩ ?_
  rintro j ⟨hj, hans⟩
  refine ifd (fun hjlt => ?_) (fun hjlt => ?_)
  rotate_left
  · obtain rfl : j = t.answers.length := by omega
    exact num64 (by omega) (by omega) ⟨i + 1, ⟨by omega, hto.next ht ⟨⟨hfor.2 har.symm, hcan, by omega, hans⟩, hnew⟩⟩, by omega, ⟨⟨rfl, rfl, rfl, rfl, rfl, trivial⟩, ⟨rfl, trivial⟩, rfl, rfl⟩⟩
  have hv_ := at_some (l := t.answers) (i := j) (by omega)
  obtain ⟨a, ha⟩ := hv_
  have hv_ := Ts.elem hB ha
  obtain ⟨ad3, p3, hel3, hra⟩ := hv_
  have hv_ := Ts.inv hra
  obtain ⟨p4, e5, hs⟩ := hv_
  have hb34 : p3.1 = p4.1 := (Value.slice.inj e5).1
  rw [← hb34] at hs
  have hab := hbt.2.2 j a ha
  have hkey : TabsP p l → a.ts.length = t.args.length ∧ CanL a.ts ∧ ¬ ∃ b ∈ t.answers.take j, b.ts = a.ts := fun k => (k.2.2.2 i t (by omega) ht).1.2.2.2 j a (by omega) ha
  refine elem_intro hel3 ?_
  refine ifnd (fun h => ret_plain (isF fun k => h (by rw [(hkey k).1]))) (fun hal => ?_)
  refine call_gives (canonicalOk_spec hs (by omega)) ?_
  refine ifnd (fun h => ret_plain (isF fun k => h (hkey k).2.1)) (fun hac => ?_)
  refine cut_intro 0 j rfl rfl (Nat.zero_le _) (by omega) ?_
  have hao : ∀ b ∈ t.answers.take j, ∀ y ∈ b.ts, y.Ok := fun b hb => by
    have hv_ := List.mem_iff_getElem?.1 hb
    obtain ⟨m, hm⟩ := hv_
    have hmj := (List.getElem?_eq_some_iff.1 hm).1
    rw [List.length_take] at hmj
    rw [List.getElem?_take, if_pos (by omega)] at hm
    exact (hans m b (by omega) hm).2.1.1
  refine call_gives (hasList_spec (l := t.answers.take j) (by rw [List.length_take]; omega) (by rw [List.map_take]; exact hB.cut0 hj) hao hs hac.1) ?_
  refine ifd (fun h => ret_plain (isF fun k => (hkey k).2.2 h)) (fun hno => ?_)
  exact num64 (by omega) (by omega) ⟨j + 1, ⟨by omega, hans.next ha ⟨by omega, hac, hno⟩⟩, by omega, ⟨⟨rfl, rfl, rfl, rfl, rfl, rfl, rfl, rfl, rfl, trivial⟩, ⟨rfl, rfl, trivial⟩, rfl, rfl⟩⟩
end
end Go.Vx

/- The law on tables. -/
namespace Go.Vx
open Go.Proofs Classical
section
variable {μ : Mem}
theorem FnExactTablesOk_spec {t0 : Pg} {v0 : Value} {t1 : List Tb} {v1 : Value} (h0 : RepV μ t0.d v0) (h1 : RepV μ (.sl 3 (t1.map Tb.d)) v1) (w0 : t0.d.wd) (w1 : D.wds (t1.map Tb.d)) :
    Spec Tryz.prog 10 [v0, v1] μ fun r _ => r = .bool true := by
  have hv_ := Pg.invV h0
  obtain ⟨p0, rfl⟩ := hv_
  have hv_ := Rep.sl h1
  obtain ⟨b1, c1, rfl, s1⟩ := hv_
  rw [List.length_map] at s1 ⊢
  refine Spec.mk Tryz.func10 (by kernel_rfl) ?_
  intro r0
  refine call_gives (szProgram_spec t0 h0 (by omega) (by omega) w0) ?_
  refine ifd (fun h => ret_plain rfl) (fun h => ?_)
  have q0 := szR_ge h
  rw [szR_pos q0] at h ⊢
  refine call_gives (szTableS_spec s1 (by omega) (by omega) w1) ?_
  refine ifd (fun h => ret_plain rfl) (fun h => ?_)
  have q1 := szR_ge h
  rw [szR_pos q1] at h
  have hb0 : t0.d.sz ≤ 1048576 := by omega
  have hb1 : t1.length + D.szs (t1.map Tb.d) ≤ 1048576 := by omega
  refine call_plain (toProgram_spec t0 h0 hb0) fun u1 μ1 hle1 hf1 => ?_
  replace h0 := h0.mono hle1
  replace s1 := s1.mono hle1
  have hv_ := Pg.invV hf1.rep
  obtain ⟨qq1, rfl⟩ := hv_
  have a0 := hf1.rep
  refine call_plain (toTableS_spec s1 hb1) fun u2 μ2 hle2 hf2 => ?_
  replace h0 := h0.mono hle2
  replace s1 := s1.mono hle2
  replace a0 := a0.mono hle2
  have hv_ := Rep.sl hf2.rep
  obtain ⟨bb2, cc2, rfl, a1⟩ := hv_
  rw [List.length_map] at a1 ⊢
  have la1 := Rep.lens hf2.rep
  rw [List.length_map] at la1
  refine call_gives (Spec.forget (spec_TablesOk_spec a0 w0 a1 w1 hb1)) ?_
  refine call_plain (toProgram_spec t0 h0 hb0) fun u3 μ3 hle3 hf3 => ?_
  replace h0 := h0.mono hle3
  replace s1 := s1.mono hle3
  replace a0 := a0.mono hle3
  replace a1 := a1.mono hle3
  have hv_ := Pg.invV hf3.rep
  obtain ⟨qq3, rfl⟩ := hv_
  have x0 := hf3.rep
  intro rx0
  refine call_plain (toTableS_spec s1 hb1) fun u4 μ4 hle4 hf4 => ?_
  replace h0 := h0.mono hle4
  replace s1 := s1.mono hle4
  replace a0 := a0.mono hle4
  replace a1 := a1.mono hle4
  replace x0 := x0.mono hle4
  have hv_ := Rep.sl hf4.rep
  obtain ⟨bb4, cc4, rfl, x1⟩ := hv_
  rw [List.length_map] at x1 ⊢
  have lx1 := Rep.lens hf4.rep
  rw [List.length_map] at lx1
  refine call_gives (Spec.forget (impl_TablesOk_spec x0 x1 lx1 hb1)) ?_
  refine if_intro (fun h => absurd h (by simp)) (fun _ => ?_)
  refine call_plain (toProgram_spec t0 h0 hb0) fun u5 μ5 hle5 hf5 => ?_
  replace h0 := h0.mono hle5
  replace s1 := s1.mono hle5
  replace a0 := a0.mono hle5
  replace a1 := a1.mono hle5
  replace x0 := x0.mono hle5
  replace x1 := x1.mono hle5
  have hv_ := Pg.invV hf5.rep
  obtain ⟨qq5, rfl⟩ := hv_
  have y0 := hf5.rep
  refine call_gives (eqProgram_spec _ x0 y0) ?_
  refine if_intro (fun h => nomatch h) (fun _ => ?_)
  refine call_plain (toTableS_spec s1 hb1) fun u6 μ6 hle6 hf6 => ?_
  replace h0 := h0.mono hle6
  replace s1 := s1.mono hle6
  replace a0 := a0.mono hle6
  replace a1 := a1.mono hle6
  replace x0 := x0.mono hle6
  replace x1 := x1.mono hle6
  have hv_ := Rep.sl hf6.rep
  obtain ⟨bb6, cc6, rfl, y1⟩ := hv_
  rw [List.length_map] at y1 ⊢
  have ly1 := Rep.lens hf6.rep
  rw [List.length_map] at ly1
  refine call_gives (eqTableS_spec x1 y1) ?_
  refine if_intro (fun h => nomatch h) (fun _ => ?_)
  exact ret_plain rfl
end
end Go.Vx

