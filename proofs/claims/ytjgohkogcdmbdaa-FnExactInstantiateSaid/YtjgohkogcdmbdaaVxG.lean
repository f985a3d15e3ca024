/- Memory that is written: new blocks, stores, appends. -/
import Derived.Test.YtjgohkogcdmbdaaVxF
namespace Go.Vx

/-! ### Headers that fade -/
theorem SV.fade_conc (t : Nat) (sv : SV) : (sv.fade t).conc = sv.conc := by
  cases sv <;> simp only [SV.fade] <;> split <;> rfl
theorem fadeCells_eq (t : Nat) : ∀ l : List SV, fadeCells t l = l.map (SV.fade t)
  | [] => rfl
  | sv :: l => by simp [fadeCells, fadeCells_eq t l]
theorem look_fadeEnv (t : Nat) : ∀ (l : List (Nat × SV)) (i : Nat), look (fadeEnv t l) i = (look l i).map (SV.fade t)
  | [], _ => rfl
  | (j, sv) :: l, i => by
    simp only [fadeEnv, look_cons, look_fadeEnv t l]
    split <;> rfl
def LB.fade (t : Nat) : LB → LB
  | .cells r cs ty => .cells r (fadeCells t cs) ty
  | lb => lb
theorem lb_fade (s : St) (t k : Nat) : (s.fade t).lb k = (s.lb k).map (LB.fade t) := by
  have : ∀ l : List (Nat × Option LB), look (fadeBlk t l) k = (look l k).map fun o => o.map (LB.fade t) := by
    intro l
    induction l with
    | nil => rfl
    | cons p l ih =>
      obtain ⟨j, lb⟩ := p
      match lb with
      | some (.cells r cs ty) => simp only [fadeBlk, look_cons, ih]; split <;> rfl
      | some (.row ..) => simp only [fadeBlk, look_cons, ih]; split <;> rfl
      | some (.map ..) => simp only [fadeBlk, look_cons, ih]; split <;> rfl
      | none => simp only [fadeBlk, look_cons, ih]; split <;> rfl
  simp only [St.lb, St.fade, this]
  cases look s.blk k <;> rfl
theorem LB.fade_blk (t : Nat) (lb : LB) : (lb.fade t).blk? = lb.blk? := by cases lb <;> rfl
theorem LB.fade_fits (t : Nat) (lb : LB) (h : Nat → Option Obj) : (lb.fade t).fits h = lb.fits h := by
  cases lb with
  | cells r cs ty =>
    simp only [LB.fade, LB.fits, fadeCells_eq, List.map_map]
    have : (SV.conc ∘ SV.fade t) = SV.conc := funext fun sv => SV.fade_conc t sv
    rw [this]
  | _ => rfl
theorem svOk_fade {s : St} (t : Nat) {sv : SV} (h : svOk s sv) : svOk (s.fade t) sv := by
  refine svOk_ext (s := s) (Nat.le_refl _) (Mem.Le.refl _) (fun u lb' _ hl => ?_) h
  rw [lb_fade] at hl
  cases hs : s.lb u with
  | none => simp [hs] at hl
  | some lb =>
    simp only [hs, Option.map_some, Option.some.injEq] at hl
    subst hl
    exact ⟨lb, rfl, by cases lb <;> simp [LB.fade, LB.alike]⟩
theorem svOk_faded {s : St} (t : Nat) {sv : SV} (h : svOk s sv) : svOk s (sv.fade t) := by
  cases sv <;> simp only [SV.fade] <;> first
    | exact h
    | (split
       · trivial
       · exact h)
theorem Rel.fade {E : Ent} {a : Act} {w : World} {s : St} (hR : Rel E a w s) (t : Nat) : Rel E a w (s.fade t) := by
  have hlb : ∀ {u lb'}, (s.fade t).lb u = some lb' → ∃ lb, s.lb u = some lb ∧ lb' = lb.fade t := fun {u lb'} h => by
    rw [lb_fade] at h
    cases hs : s.lb u with
    | none => simp [hs] at h
    | some lb => simp only [hs, Option.map_some, Option.some.injEq] at h; exact ⟨lb, rfl, h.symm⟩
  refine ⟨hR.defers, hR.size, fun i sv h => ?_, fun u r cs ty h sv hsv => ?_, ⟨hR.sees.1, fun u lb' h => ?_⟩, fun u lb' h => ?_, fun u lb' r h hr => ?_, fun u u' lb' lb2' r h h' hr hr' => ?_, hR.own, hR.mono, hR.fresh, hR.grow, hR.keep, hR.os, hR.tape, hR.output⟩
  · simp only [St.fade, look_fadeEnv] at h
    cases hs : look s.env i with
    | none => simp [hs] at h
    | some x =>
      simp only [hs, Option.map_some, Option.some.injEq] at h
      subst h
      obtain ⟨h1, h2⟩ := hR.env i x hs
      exact ⟨by rw [SV.fade_conc]; exact h1, svOk_fade t (svOk_faded t h2)⟩
  · obtain ⟨lb, h1, h2⟩ := hlb h
    cases lb <;> simp only [LB.fade] at h2 <;> cases h2
    rw [fadeCells_eq] at hsv
    obtain ⟨x, hx, rfl⟩ := List.mem_map.1 hsv
    exact svOk_fade t (svOk_faded t (hR.cells _ _ _ _ h1 x hx))
  · obtain ⟨lb, h1, rfl⟩ := hlb h
    rw [LB.fade_fits]
    exact hR.sees.2 _ _ h1
  · obtain ⟨lb, h1, rfl⟩ := hlb h
    exact hR.nxt _ _ h1
  · obtain ⟨lb, h1, rfl⟩ := hlb h
    rw [LB.fade_blk] at hr
    exact hR.place _ _ _ h1 hr
  · obtain ⟨lb, h1, rfl⟩ := hlb h
    obtain ⟨lb2, h2, rfl⟩ := hlb h'
    rw [LB.fade_blk] at hr hr'
    exact hR.sep _ _ _ _ _ h1 h2 hr hr'
/-- No header of row t is left. -/
def SV.free (t : Nat) : SV → Prop
  | .row t' _ _ _ => t' ≠ t
  | .rel t' _ _ _ _ => t' ≠ t
  | _ => True
theorem SV.fade_free (t : Nat) (sv : SV) : (sv.fade t).free t := by
  cases sv <;> simp only [SV.fade] <;> first
    | trivial
    | (split
       · trivial
       · rename_i h
         intro e; subst e; simp at h)
theorem svOk_setRow {s : St} {t : Nat} {lb lb' : LB} {sv : SV} (hlb : s.lb t = some lb) (hrow : ∃ b c y e x, lb = .row b c y e x) (hf : sv.free t) (h : svOk s sv) : svOk (s.setB t lb') sv := by
  obtain ⟨b, c, y, e, x, rfl⟩ := hrow
  cases sv with
  | loc u r off =>
    obtain ⟨h1, h2⟩ := h
    refine ⟨h1, fun lb2 hl => ?_⟩
    rw [lb_setB] at hl
    split at hl
    · rename_i hu
      subst hu
      obtain ⟨_, _, h3⟩ := h2 _ hlb
      cases h3
    · exact h2 _ hl
  | row u base n cap =>
    obtain ⟨h1, h2⟩ := h
    refine ⟨h1, fun lb2 hl => ?_⟩
    rw [lb_setB, if_neg hf] at hl
    exact h2 _ hl
  | rel u base es i off =>
    obtain ⟨h1, h2⟩ := h
    refine ⟨h1, fun lb2 hl => ?_⟩
    rw [lb_setB, if_neg hf] at hl
    exact h2 _ hl
  | elem a cs off => exact h
  | val v => trivial
  | kn b => trivial

/-! ### Runs -/
section
variable {P : Program}
theorem run_storeVar {t : TypeId} {i : TI} (hi : TIok P t i) (w : World) (r off : Nat) (cur : Array Value) (ty : TypeId) (hg : w.heap[r]? = some (.cells cur ty (0, 0))) (v : Value)
    (hl : (vcells v).length = i.size) (hb : off + i.size ≤ cur.size) (h1 : ∀ u ∈ vcells v, u.oneCell' = true) :
    (storeVar t ⟨r, off, none⟩ v).run P w = .ok () (w.setRow r (cur.toList.take off ++ vcells v ++ cur.toList.drop (off + (vcells v).length)).toArray) := by
  have hsz : v.cells.size = i.size := by rw [← hl, ← cells_vcells]; simp
  have := run_storeCells_at P r off ty (vcells v) 0 cur w hg (by omega) h1
  simp only [Nat.add_zero] at this
  simp [storeVar, hi.run_sizeOf, hsz, cells_vcells, this]
/-- What an append does to a row of the call's own. -/
theorem run_append_row {t ty e : TypeId} {te : TI} (ht : P.underlying t = some (.slice e)) (he : TIok P e te) (hpos : te.size ≠ 0) (w : World) (base : Option Nat) (cap : Nat) (xs ys : List Value)
    (hfit : (LB.row base cap e te.size xs).fits (fun k => w.heap[k]?)) (src : Option Addr) (c : Nat)
    (hys : ∀ y ∈ ys, (vcells y).length = te.size ∧ ∀ u ∈ vcells y, u.oneCell' = true)
    (hsrc : ys = [] ∨ ∃ a, src = some a ∧ ∀ j v, (ys.flatMap vcells)[j]? = some v → w.cell? (a.add j) = some v)
    (hby : (xs.length + ys.length) * te.bytes ≤ 140737488355328) (hmax : xs.length + ys.length ≤ maxLen) :
    ∃ base' cap' w', (Builtin.append_ #[t, t] ty #[.slice (base.map fun r => ⟨r, 0, none⟩) xs.length cap, .slice src ys.length c]).run P w = .ok (.slice (base'.map fun r => ⟨r, 0, none⟩) (xs.length + ys.length) cap') w' ∧
      (LB.row base' cap' e te.size (xs ++ ys)).fits (fun k => w'.heap[k]?) ∧ (∀ r, base' = some r → base = some r ∨ w.heap.size ≤ r) ∧
      (∀ k, k < w.heap.size → base ≠ some k → w'.heap[k]? = w.heap[k]?) ∧ w.heap.size ≤ w'.heap.size ∧ w'.os = w.os ∧ w'.tape = w.tape ∧ w'.output = w.output ∧ (base' = none → xs ++ ys = []) := by
  obtain ⟨inf, hin, hsz, hbt, z, hz, hzc⟩ := he.info'
  have hzs : z.cells.size = te.zero.length := by rw [← hzc, ← cells_vcells]; simp
  have flen : ∀ l : List Value, (∀ y ∈ l, (vcells y).length = te.size) → (l.flatMap vcells).length = l.length * te.size := by
    intro l hl
    induction l with
    | nil => simp
    | cons y l ih =>
      simp only [List.flatMap_cons, List.length_append, List.length_cons, ih (fun y hy => hl y (by simp [hy])), hl y (by simp), Nat.add_mul]
      omega
  have yl := flen ys fun y hy => (hys y hy).1
  have y1 : ∀ u ∈ ys.flatMap vcells, u.oneCell' = true := fun u hu => by
    obtain ⟨y, hy, hu⟩ := List.mem_flatMap.1 hu
    exact (hys y hy).2 u hu
  by_cases hyn : ys = []
  · subst hyn
    refine ⟨base, cap, w, ?_, by simpa using hfit, fun r h => .inl h, fun k _ _ => rfl, Nat.le_refl _, rfl, rfl, rfl, fun h => ?_⟩
    · have hle : xs.length ≤ cap := by
        cases base with
        | none => obtain ⟨rfl, rfl⟩ := hfit; simp
        | some r => exact hfit.1
      cases base <;> cases src <;>
        simp [Builtin.append_, run_underlying ht, sizeOf, typeInfo, hin, Builtin.lenOf, Builtin.firstCells, hle, storeCells, loadCells, loadCellsFrom]
    · subst h
      simpa using hfit.1
  · obtain ⟨a, ea, hsrc'⟩ := hsrc.resolve_left hyn
    subst ea
    have yp : 0 < ys.length := List.length_pos_iff.2 hyn
    have h63 : ((xs.length + ys.length : Nat) : Int) ≤ 9223372036854775807 := by simp only [maxLen] at hmax; omega
    cases base with
    | none =>
      obtain ⟨rfl, rfl⟩ := hfit
      simp only [List.length_nil, Nat.zero_add] at *
      have hr := run_append_nil (P := P) w t ty e inf z ht hin hz a ys.length c (ys.flatMap vcells) (by rw [yl, hsz]) hsrc' yp (by omega) (by rw [hbt]; omega)
      refine ⟨some w.heap.size, _, _, hr, ⟨?_, ?_, by simpa using hys, _, heap_alloc_new w.drew _, ?_, ?_⟩, fun r h => .inr (by simp at h; omega), fun k hk _ => Go.RowKit.Below.heap_alloc w.drew _ k hk, by simp, rfl, rfl, rfl, by simp⟩
      · simpa using grownCap_ge w ys.length 0 e
      · exact grownCap_le_maxLen w _ _ e (by omega)
      · have := grownCap_ge w ys.length 0 e
        simp only [Array.size_append, List.size_toArray, size_zeroCells, yl, hzs, he.zlen]
        rw [← Nat.add_mul]
        congr 1
        omega
      · simp only [Array.toList_append, List.nil_append]
        rw [← yl]
        exact List.take_left
    | some r =>
      obtain ⟨hc1, hc2, hxs, arr, hg, hs, htk⟩ := hfit
      have xl := flen xs fun x hx => (hxs x hx).1
      have hall : ∀ y ∈ xs ++ ys, (vcells y).length = te.size ∧ ∀ u ∈ vcells y, u.oneCell' = true := fun y hy => by
        rcases List.mem_append.1 hy with h | h
        · exact hxs y h
        · exact hys y h
      by_cases hroom : xs.length + ys.length ≤ cap
      · have hfit' : xs.length * inf.size + (ys.flatMap vcells).length ≤ arr.size := by rw [yl, hs, hsz, ← Nat.add_mul]; exact Nat.mul_le_mul_right _ hroom
        have hr := run_append_room (P := P) w t ty e inf ht hin r xs.length cap arr hg a ys.length c (ys.flatMap vcells) (by rw [yl, hsz]) hsrc' y1 hroom hfit'
        refine ⟨some r, cap, _, hr, ⟨by simpa using hroom, hc2, hall, _, setRow_heap w r arr _ e _ hg, ?_, ?_⟩, fun r' h => .inl h, fun k _ hk => setRow_other w r k _ (fun e => hk (by simp [e])), by simp [World.setRow], rfl, rfl, rfl, by simp⟩
        · simp only [List.size_toArray, List.length_append, List.length_take, List.length_drop, Array.length_toList]
          omega
        · simp only [hsz, htk, List.flatMap_append]
          rw [show (xs ++ ys).length * te.size = (xs.flatMap vcells ++ ys.flatMap vcells).length from by simp only [List.length_append, xl, yl, Nat.add_mul]]
          exact List.take_left
      · have holds : ∀ j v, (xs.flatMap vcells)[j]? = some v → w.cell? ((⟨r, 0, none⟩ : Addr).add j) = some v := fun j v hj => by
          rw [Addr.add_lit', Nat.zero_add]
          rw [← htk, List.getElem?_take] at hj
          split at hj
          · simp only [World.cell?, hg]
            simpa using hj
          · cases hj
        have hr := run_append_grow (P := P) w t ty e inf z ht hin hz ⟨r, 0, none⟩ xs.length cap (xs.flatMap vcells) (by rw [xl, hsz]) holds a ys.length c (ys.flatMap vcells) (by rw [yl, hsz]) hsrc' (by omega) h63 (growslice_fits (by omega) (by rw [hbt]; exact hby))
        refine ⟨some w.heap.size, _, _, hr, ⟨?_, ?_, hall, _, heap_alloc_new w.drew _, ?_, ?_⟩, fun r h => .inr (by simp at h; omega), fun k hk _ => Go.RowKit.Below.heap_alloc w.drew _ k hk, by simp, rfl, rfl, rfl, by simp⟩
        · simpa using grownCap_ge w (xs.length + ys.length) cap e
        · exact grownCap_le_maxLen w _ _ e hmax
        · have := grownCap_ge w (xs.length + ys.length) cap e
          simp only [Array.size_append, List.size_toArray, size_zeroCells, xl, yl, hzs, he.zlen]
          rw [← Nat.add_mul, ← Nat.add_mul]
          congr 1
          omega
        · simp only [Array.toList_append, List.flatMap_append, List.append_assoc]
          rw [← List.append_assoc, show (xs ++ ys).length * te.size = (xs.flatMap vcells ++ ys.flatMap vcells).length from by simp only [List.length_append, xl, yl, Nat.add_mul]]
          exact List.take_left
end
end Go.Vx
