/- The relation between the machine's state and the generator's; how it is kept. -/
import Derived.Test.YtjgohkogcdmbdaaVxE
namespace Go.Vx

/-- The call's own beginning: its world, the frozen and the owned memory, the number of slots. -/
structure Ent where
  w0 : World
  μ0 : Mem
  h0 : Mem
  n : Nat
structure Rel (E : Ent) (a : Act) (w : World) (s : St) : Prop where
  defers : a.defers = []
  size : a.tmps.size = E.n
  env : EnvOk s a
  cells : BlkOk s
  sees : Sees s w
  nxt : ∀ t lb, s.lb t = some lb → t < s.nxt
  place : ∀ t lb r, s.lb t = some lb → lb.blk? = some r → s.mem r = none ∧ s.own r = none ∧ (E.w0.heap.size ≤ r ∨ E.h0 r ≠ none)
  sep : ∀ t t' lb lb' r, s.lb t = some lb → s.lb t' = some lb' → lb.blk? = some r → lb'.blk? = some r → t = t'
  own : Holds s.own w ∧ ∀ b, s.own b ≠ none → s.mem b = none ∧ (E.w0.heap.size ≤ b ∨ E.h0 b ≠ none)
  mono : E.μ0.Le s.mem
  fresh : ∀ b, E.μ0 b = none → s.mem b ≠ none → E.w0.heap.size ≤ b ∨ E.h0 b ≠ none
  grow : E.w0.heap.size ≤ w.heap.size
  keep : ∀ b, b < E.w0.heap.size → E.h0 b = none → w.heap[b]? = E.w0.heap[b]?
  os : w.os = E.w0.os
  tape : w.tape = E.w0.tape
  output : w.output = E.w0.output

theorem LB.fits_congr {lb : LB} {h h' : Nat → Option Obj} (hh : ∀ r, lb.blk? = some r → h' r = h r) (hf : lb.fits h) : lb.fits h' := by
  cases lb with
  | cells r cs ty => simp only [LB.fits] at *; rw [hh r rfl]; exact hf
  | map r en ck => simp only [LB.fits] at *; rw [hh r rfl]; exact hf
  | row base cap ty es xs =>
    cases base with
    | none => exact hf
    | some r =>
      obtain ⟨h1, h2, h3, arr, h4, h5⟩ := hf
      exact ⟨h1, h2, h3, arr, by rw [hh r rfl]; exact h4, h5⟩
theorem LB.fits_lt {lb : LB} {w : World} (hf : lb.fits (fun b => w.heap[b]?)) {r : Nat} (hr : lb.blk? = some r) : r < w.heap.size := by
  have key : ∀ o, w.heap[r]? = some o → r < w.heap.size := fun o h => (Array.getElem?_eq_some_iff.1 h).1
  cases lb with
  | cells r' cs ty => cases hr; exact key _ hf
  | map r' en ck => cases hr; exact key _ hf
  | row base cap ty es xs =>
    cases hr
    obtain ⟨_, _, _, arr, h4, _⟩ := hf
    exact key _ h4
theorem Holds.lt {μ : Mem} {w : World} (h : Holds μ w) {b : Nat} (hb : μ b ≠ none) : b < w.heap.size := by
  cases ho : μ b with
  | none => exact absurd ho hb
  | some o => exact (Array.getElem?_eq_some_iff.1 (h b o ho)).1
theorem Rel.mem_none {E : Ent} {a : Act} {w : World} {s : St} (hR : Rel E a w s) {r : Nat} (h : w.heap.size ≤ r) : s.mem r = none ∧ s.own r = none := by
  constructor
  · cases ho : s.mem r with
    | none => rfl
    | some o => have := hR.sees.1.lt (b := r) (by simp [ho]); omega
  · cases ho : s.own r with
    | none => rfl
    | some o => have := hR.own.1.lt (b := r) (by simp [ho]); omega
/-- One local (an old one, or a new one) is turned; all else is as it was. -/
theorem Rel.change {E : Ent} {a : Act} {w w' : World} {s s' : St} (hR : Rel E a w s) (tag : Nat) (lb' : LB)
    (hlb : ∀ t, s'.lb t = if t = tag then some lb' else s.lb t) (hmem : s'.mem = s.mem) (hown : s'.own = s.own) (hnxt : s.nxt ≤ s'.nxt) (htag : tag < s'.nxt)
    (hE : EnvOk s' a) (hB : BlkOk s') (hfit : lb'.fits (fun b => w'.heap[b]?))
    (hold : ∀ r, lb'.blk? = some r → (∃ lb, s.lb tag = some lb ∧ lb.blk? = some r) ∨ w.heap.size ≤ r)
    (hkeep : ∀ b, b < w.heap.size → (∀ lb, s.lb tag = some lb → lb.blk? ≠ some b) → w'.heap[b]? = w.heap[b]?)
    (hsize : w.heap.size ≤ w'.heap.size) (os : w'.os = w.os) (tape : w'.tape = w.tape) (output : w'.output = w.output) : Rel E a w' s' := by
  have hplace : ∀ r, lb'.blk? = some r → s.mem r = none ∧ s.own r = none ∧ (E.w0.heap.size ≤ r ∨ E.h0 r ≠ none) := fun r hr => by
    rcases hold r hr with ⟨lb, h1, h2⟩ | h
    · exact hR.place _ _ _ h1 h2
    · exact ⟨(hR.mem_none h).1, (hR.mem_none h).2, .inl (Nat.le_trans hR.grow h)⟩
  have hoth : ∀ t lb r, t ≠ tag → s.lb t = some lb → lb.blk? = some r → lb'.blk? ≠ some r := fun t lb r ht hl hr hr' => by
    rcases hold r hr' with ⟨lb2, h1, h2⟩ | h
    · exact ht (hR.sep _ _ _ _ _ hl h1 hr h2)
    · have := LB.fits_lt (hR.sees.2 _ _ hl) hr; omega
  have hmk : ∀ b o, s.mem b = some o → w'.heap[b]? = some o := fun b o hb => by
    rw [hkeep b (hR.sees.1.lt (by simp [hb])) (fun lb h1 h2 => by have := (hR.place _ _ _ h1 h2).1; simp [hb] at this)]
    exact hR.sees.1 b o hb
  refine ⟨hR.defers, hR.size, hE, hB, ⟨by rw [hmem]; exact hmk, fun t lb h => ?_⟩, fun t lb h => ?_, fun t lb r h hr => ?_, fun t t' lb lb2 r h h' hr hr' => ?_, ⟨?_, ?_⟩, by rw [hmem]; exact hR.mono, by rw [hmem]; exact hR.fresh, Nat.le_trans hR.grow hsize, fun b hb h0 => ?_, os.trans hR.os, tape.trans hR.tape, output.trans hR.output⟩
  · rw [hlb] at h
    split at h
    · cases h; exact hfit
    · rename_i ht
      refine LB.fits_congr (fun r hr => ?_) (hR.sees.2 _ _ h)
      exact hkeep r (LB.fits_lt (hR.sees.2 _ _ h) hr) (fun lb2 h1 h2 => ht (hR.sep _ _ _ _ _ h h1 hr h2))
  · rw [hlb] at h
    split at h
    · rename_i ht; subst ht; exact htag
    · exact Nat.lt_of_lt_of_le (hR.nxt _ _ h) hnxt
  · rw [hlb] at h
    rw [hmem, hown]
    split at h
    · cases h; exact hplace r hr
    · exact hR.place _ _ _ h hr
  · rw [hlb] at h h'
    split at h
    · rename_i ht
      split at h'
      · rename_i ht'; rw [ht, ht']
      · rename_i ht'
        cases h
        exact absurd hr (hoth _ _ _ ht' h' hr')
    · rename_i ht
      split at h'
      · rename_i ht'
        cases h'
        exact absurd hr' (hoth _ _ _ ht h hr)
      · exact hR.sep _ _ _ _ _ h h' hr hr'
  · rw [hown]
    intro b o hb
    rw [hkeep b (hR.own.1.lt (by simp [hb])) (fun lb h1 h2 => by have := (hR.place _ _ _ h1 h2).2.1; simp [hb] at this)]
    exact hR.own.1 b o hb
  · rw [hown, hmem]; exact hR.own.2
  · rw [hkeep b (Nat.lt_of_lt_of_le hb hR.grow) (fun lb h1 h2 => by
      rcases (hR.place _ _ _ h1 h2).2.2 with h | h
      · omega
      · exact h h0)]
    exact hR.keep b hb h0

theorem svOk_own {s : St} {h : Mem} {sv : SV} (hs : svOk s sv) : svOk { s with own := h } sv := by cases sv <;> exact hs
theorem Rel.own_none {E : Ent} {a : Act} {w : World} {s : St} (hR : Rel E a w s) {b : Nat} (h : s.mem b ≠ none) : s.own b = none := by
  cases ho : s.own b with
  | none => rfl
  | some o => exact absurd (hR.own.2 b (by simp [ho])).1 h
/-- Owned memory is turned; all else is as it was. -/
theorem Rel.chown {E : Ent} {a : Act} {w w' : World} {s : St} {h' : Mem} (hR : Rel E a w s) (hh : Holds h' w') (hnew : ∀ b, h' b ≠ none → s.own b ≠ none ∨ w.heap.size ≤ b)
    (hkeep : ∀ b, b < w.heap.size → s.own b = none → w'.heap[b]? = w.heap[b]?) (hsize : w.heap.size ≤ w'.heap.size) (os : w'.os = w.os) (tape : w'.tape = w.tape) (output : w'.output = w.output) : Rel E a w' { s with own := h' } := by
  have hno : ∀ b, s.mem b ≠ none → h' b = none := fun b hb => by
    cases ho : h' b with
    | none => rfl
    | some o =>
      rcases hnew b (by simp [ho]) with h | h
      · exact absurd (hR.own_none hb) h
      · have := hR.sees.1.lt hb; omega
  refine ⟨hR.defers, hR.size, fun i sv h => ⟨(hR.env i sv h).1, svOk_own (hR.env i sv h).2⟩, fun t r cs ty h sv hsv => svOk_own (hR.cells t r cs ty h sv hsv), ⟨fun b o hb => ?_, fun t lb h => ?_⟩, hR.nxt, fun t lb r h hr => ?_, hR.sep, ⟨hh, fun b hb => ?_⟩, hR.mono, hR.fresh, Nat.le_trans hR.grow hsize, fun b hb h0 => ?_, os.trans hR.os, tape.trans hR.tape, output.trans hR.output⟩
  · rw [hkeep b (hR.sees.1.lt (by simp only at hb; simp [hb])) (hR.own_none (by simp only at hb; simp [hb]))]
    exact hR.sees.1 b o hb
  · refine LB.fits_congr (fun r hr => ?_) (hR.sees.2 t lb h)
    exact hkeep r (LB.fits_lt (hR.sees.2 t lb h) hr) (hR.place t lb r h hr).2.1
  · obtain ⟨h1, h2, h3⟩ := hR.place t lb r h hr
    refine ⟨h1, ?_, h3⟩
    cases ho : h' r with
    | none => exact ho
    | some o =>
      rcases hnew r (by simp [ho]) with h4 | h4
      · exact absurd h2 h4
      · have := LB.fits_lt (hR.sees.2 t lb h) hr; omega
  · rcases hnew b hb with h | h
    · exact hR.own.2 b h
    · exact ⟨(hR.mem_none h).1, .inl (Nat.le_trans hR.grow h)⟩
  · rw [hkeep b (Nat.lt_of_lt_of_le hb hR.grow) ?_]
    · exact hR.keep b hb h0
    · cases ho : s.own b with
      | none => rfl
      | some o =>
        rcases (hR.own.2 b (by simp [ho])).2 with h | h
        · omega
        · exact absurd h0 h

/-! ### svOk along changes -/
def LB.alike : LB → LB → Prop
  | .cells r _ _, .cells r' _ _ => r = r'
  | .row b c _ es xs, .row b' c' _ es' xs' => b = b' ∧ c = c' ∧ es = es' ∧ xs.length = xs'.length
  | .map r _ _, .map r' _ _ => r = r'
  | _, _ => False
theorem LB.alike_refl (lb : LB) : lb.alike lb := by cases lb <;> simp [LB.alike]
theorem svOk_ext {s s' : St} {sv : SV} (hnxt : s.nxt ≤ s'.nxt) (hmem : s.mem.Le s'.mem) (h : ∀ t lb', t < s.nxt → s'.lb t = some lb' → ∃ lb, s.lb t = some lb ∧ lb.alike lb') (hs : svOk s sv) : svOk s' sv := by
  cases sv with
  | loc t r off =>
    obtain ⟨h1, h2⟩ := hs
    refine ⟨Nat.lt_of_lt_of_le h1 hnxt, fun lb' hl => ?_⟩
    obtain ⟨lb, hlb, ha⟩ := h t lb' h1 hl
    obtain ⟨cs, ty, rfl⟩ := h2 lb hlb
    cases lb' <;> simp only [LB.alike] at ha
    subst ha
    exact ⟨_, _, rfl⟩
  | row t base n cap =>
    obtain ⟨h1, h2⟩ := hs
    refine ⟨Nat.lt_of_lt_of_le h1 hnxt, fun lb' hl => ?_⟩
    obtain ⟨lb, hlb, ha⟩ := h t lb' h1 hl
    obtain ⟨ty, es, xs, rfl, hn⟩ := h2 lb hlb
    cases lb' <;> simp only [LB.alike] at ha
    obtain ⟨rfl, rfl, rfl, hl⟩ := ha
    exact ⟨_, _, _, rfl, by omega⟩
  | elem a cs off => exact fun j v hj => hmem.cell (hs j v hj)
  | rel t base es i off =>
    obtain ⟨h1, h2⟩ := hs
    refine ⟨Nat.lt_of_lt_of_le h1 hnxt, fun lb' hl => ?_⟩
    obtain ⟨lb, hlb, ha⟩ := h t lb' h1 hl
    obtain ⟨cap, ty, xs, rfl, hn⟩ := h2 lb hlb
    cases lb' <;> simp only [LB.alike] at ha
    obtain ⟨rfl, rfl, rfl, hl⟩ := ha
    exact ⟨_, _, _, rfl, by omega⟩
  | val v => trivial
  | kn b => trivial
theorem look_cons {α : Type} (i : Nat) (x : α) (l : List (Nat × α)) (k : Nat) : look ((i, x) :: l) k = if k = i then some x else look l k := by
  simp only [look]
  split
  · rename_i h; have := Nat.eq_of_beq_eq_true h; simp [this]
  · rename_i h
    have : k ≠ i := fun e => by subst e; simp at h
    simp [this]
theorem lb_setB (s : St) (t : Nat) (b : LB) (k : Nat) : (s.setB t b).lb k = if k = t then some b else s.lb k := by
  by_cases h : k = t <;> simp [St.lb, St.setB, look_cons, h]
theorem lb_newB (s : St) (b : LB) (k : Nat) : (s.newB b).lb k = if k = s.nxt then some b else s.lb k := by
  by_cases h : k = s.nxt <;> simp [St.lb, St.newB, look_cons, h]
theorem lb_kill (s : St) (t : Nat) (μ : Mem) (k : Nat) : (St.lb { s with mem := μ, blk := (t, none) :: s.blk } k) = if k = t then none else s.lb k := by
  by_cases h : k = t <;> simp [St.lb, look_cons, h]
theorem lb_look {s : St} {t : Nat} {lb : LB} (h : s.lb t = some lb) : look s.blk t = some (some lb) := by
  unfold St.lb at h
  split at h
  · rename_i x hx; rw [hx, h]
  · cases h
theorem Rel.put {E : Ent} {a : Act} {w : World} {s : St} (hR : Rel E a w s) {dst : Option Tmp} {sv : SV} (hd : ∀ d, dst = some d → d < E.n) (ho : svOk s sv) : Rel E (a.put dst sv.conc) w (s.put dst sv) := by
  cases dst with
  | none => exact hR
  | some d =>
    have hd := hd d rfl
    have hs : ∀ x, svOk s x → svOk (s.put (some d) sv) x := fun x hx => svOk_ext (s := s) (Nat.le_refl _) (Mem.Le.refl _) (fun t lb' _ h => ⟨lb', h, lb'.alike_refl⟩) hx
    refine ⟨hR.defers, by simp [Act.put, hR.size], fun i x hx => ?_, fun t r cs ty h x hx => hs x (hR.cells t r cs ty h x hx), hR.sees, hR.nxt, hR.place, hR.sep, hR.own, hR.mono, hR.fresh, hR.grow, hR.keep, hR.os, hR.tape, hR.output⟩
    simp only [St.put, look_cons] at hx
    split at hx
    · rename_i e
      cases hx
      subst e
      refine ⟨?_, hs _ ho⟩
      simp only [Act.put, Array.getElem?_setIfInBounds, if_true]
      rw [if_pos (by rw [hR.size]; exact hd)]
    · rename_i e
      obtain ⟨h1, h2⟩ := hR.env i x hx
      refine ⟨?_, hs _ h2⟩
      simp only [Act.put, Array.getElem?_setIfInBounds]
      rw [if_neg (fun h => e h.symm)]
      exact h1
theorem svOk_newB {s : St} {b : LB} {sv : SV} (h : svOk s sv) : svOk (s.newB b) sv := by
  refine svOk_ext (s := s) (Nat.le_succ _) (Mem.Le.refl _) (fun t lb' ht hl => ?_) h
  rw [lb_newB, if_neg (by omega)] at hl
  exact ⟨lb', hl, lb'.alike_refl⟩
/-- A new block. -/
theorem Rel.newB {E : Ent} {a : Act} {w w' : World} {s : St} (hR : Rel E a w s) {b : LB} {o : Obj} (hw : w' = w.alloc o)
    (hfit : b.fits (fun k => w'.heap[k]?)) (hblk : ∀ r, b.blk? = some r → r = w.heap.size) (hok : ∀ r cs ty, b = .cells r cs ty → ∀ sv ∈ cs, svOk s sv) : Rel E a w' (s.newB b) := by
  subst hw
  refine hR.change s.nxt b (fun t => lb_newB s b t) rfl rfl (Nat.le_succ _) (Nat.lt_succ_self _) (fun i sv h => ?_) (fun t r cs ty h sv hsv => ?_) hfit (fun r hr => .inr (Nat.le_of_eq (hblk r hr).symm)) (fun k hk _ => Go.RowKit.Below.heap_alloc w o k hk) (by simp) rfl rfl rfl
  · obtain ⟨h1, h2⟩ := hR.env i sv h
    exact ⟨h1, svOk_newB h2⟩
  · rw [lb_newB] at h
    split at h
    · exact svOk_newB (hok r cs ty (by simpa using h) sv hsv)
    · exact svOk_newB (hR.cells t r cs ty h sv hsv)
end Go.Vx
