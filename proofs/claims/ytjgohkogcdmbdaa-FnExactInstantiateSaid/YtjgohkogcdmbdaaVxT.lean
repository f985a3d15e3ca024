/- What memory holds: slices of data, and the world's own heap. -/
import Derived.Test.YtjgohkogcdmbdaaVxS
import Derived.Carry
import Derived.ChangeArms
import Derived.RowKit3
namespace Go.Vx
theorem add_add (a : Addr) (i j : Nat) : (a.add i).add j = a.add (i + j) := by
  by_cases hi : i = 0
  · subst hi; simp [Addr.add]
  · by_cases hj : j = 0
    · subst hj; simp [Addr.add]
    · have : ¬ (i + j = 0) := by omega
      simp [Addr.add, hi, hj, this, Nat.add_assoc]
/-- The world's own heap. -/
def wmem (w : World) : Mem := fun b => w.heap[b]?
theorem wmem_holds (w : World) : Holds (wmem w) w := fun _ _ h => h
theorem wmem_cell (w : World) (a : Addr) : (wmem w).cell a = w.cell? a := rfl
/-- Cells at a place. -/
def CellsAt (μ : Mem) (a : Addr) (cs : List Value) : Prop := ∀ j v, cs[j]? = some v → μ.cell (a.add j) = some v
theorem CellsAt.mono {μ μ' : Mem} (h : μ.Le μ') {a : Addr} {cs : List Value} (k : CellsAt μ a cs) : CellsAt μ' a cs := fun j v hj => h.cell (k j v hj)
/-- A slice whose elements are what xs says. -/
structure SlC {α : Type} (R : α → List Value → Prop) (μ : Mem) (es : Nat) (base : Option Addr) (n : Nat) (xs : List α) : Prop where
  len : xs.length = n
  max : n ≤ maxLen
  get : ∀ (i : Nat) x, xs[i]? = some x → ∃ a0 cs, base = some a0 ∧ cs.length = es ∧ CellsAt μ (a0.add (i * es)) cs ∧ R x cs
section
variable {α : Type} {R : α → List Value → Prop} {μ μ' : Mem} {es n : Nat} {base : Option Addr} {xs : List α}
theorem SlC.elem (h : SlC R μ es base n xs) {i : Nat} {x : α} (hx : xs[i]? = some x) : ∃ a cs, ElemAt μ base n es i a cs ∧ R x cs := by
  obtain ⟨a0, cs, h1, h2, h3, h4⟩ := h.get i x hx
  have hi : i < xs.length := (List.getElem?_eq_some_iff.1 hx).1
  exact ⟨a0.add (i * es), cs, ⟨by omega, by have := h.len; omega, ⟨a0, h1, by simp⟩, h2, h3⟩, h4⟩
theorem SlC.mono {R' : α → List Value → Prop} (h : SlC R μ es base n xs) (hle : μ.Le μ') (hR : ∀ x cs, R x cs → R' x cs) : SlC R' μ' es base n xs :=
  ⟨h.len, h.max, fun i x hx => by
    obtain ⟨a0, cs, h1, h2, h3, h4⟩ := h.get i x hx
    exact ⟨a0, cs, h1, h2, h3.mono hle, hR x cs h4⟩⟩
theorem SlC.nil (hm : True) : SlC R μ es none 0 [] := ⟨rfl, Nat.zero_le _, fun i x hx => by simp at hx⟩
theorem flat_at {es : Nat} : ∀ {ys : List Value}, (∀ y ∈ ys, (vcells y).length = es) → ∀ {i : Nat} {y : Value}, ys[i]? = some y → ∀ {j : Nat} {v : Value}, (vcells y)[j]? = some v → (ys.flatMap vcells)[i * es + j]? = some v
  | [], _, i, y, h, _, _, _ => by simp at h
  | z :: r, hl, i, y, h, j, v, hv => by
    have hz := hl z (by simp)
    match i with
    | 0 =>
      simp only [List.getElem?_cons_zero, Option.some.injEq] at h
      subst h
      simp only [List.flatMap_cons, Nat.zero_mul, Nat.zero_add]
      rw [List.getElem?_append_left (List.getElem?_eq_some_iff.1 hv).1]
      exact hv
    | i + 1 =>
      have ih := flat_at (ys := r) (fun y hy => hl y (by simp [hy])) (i := i) (by simpa using h) hv
      simp only [List.flatMap_cons]
      rw [List.getElem?_append_right (by rw [hz, Nat.succ_mul]; omega), hz]
      rw [show (i + 1) * es + j - es = i * es + j from by rw [Nat.succ_mul]; omega]
      exact ih
/-- A row of one's own, frozen. -/
theorem SlC.ofRow {b : Option Nat} {cap : Nat} {ys : List Value} (h : RowAt μ b cap es ys) (hb : b = none → ys = []) (hm : ys.length ≤ maxLen) (hl : xs.length = ys.length)
    (hR : ∀ (i : Nat) x y, xs[i]? = some x → ys[i]? = some y → R x (vcells y)) : SlC R μ es (b.map fun r => ⟨r, 0, none⟩) ys.length xs := by
  refine ⟨hl, hm, fun i x hx => ?_⟩
  have hi : i < ys.length := by rw [← hl]; exact (List.getElem?_eq_some_iff.1 hx).1
  obtain ⟨y, hy⟩ : ∃ y, ys[i]? = some y := ⟨ys[i], List.getElem?_eq_getElem hi⟩
  cases b with
  | none => rw [hb rfl] at hy; simp at hy
  | some r =>
    obtain ⟨h1, h2, arr, ty, h3, h4, h5⟩ := h
    have hlen := (h2 y (List.mem_of_getElem? hy)).1
    refine ⟨⟨r, 0, none⟩, vcells y, rfl, hlen, fun j v hv => ?_, hR i x y hx hy⟩
    have hj : j < es := by rw [← hlen]; exact (List.getElem?_eq_some_iff.1 hv).1
    have hlt : i * es + j < ys.length * es := by
      have : (i + 1) * es ≤ ys.length * es := Nat.mul_le_mul_right _ hi
      rw [Nat.succ_mul] at this
      omega
    have hf := flat_at (fun y hy => (h2 y hy).1) hy hv
    rw [← h5, List.getElem?_take, if_pos hlt] at hf
    rw [add_add]
    have : ((⟨r, 0, none⟩ : Addr).add (i * es + j)) = ⟨r, i * es + j, none⟩ := by
      unfold Addr.add; split
      · rename_i e; simp [e]
      · simp
    rw [this]
    simp only [Mem.cell, h3]
    simpa using hf
theorem exists_list {Pr : Nat → α → Prop} : ∀ (n : Nat), (∀ i, i < n → ∃ x, Pr i x) → ∃ xs : List α, xs.length = n ∧ ∀ (i : Nat) x, xs[i]? = some x → Pr i x
  | 0, _ => ⟨[], rfl, fun i x h => by simp at h⟩
  | n + 1, h => by
    obtain ⟨xs, h1, h2⟩ := exists_list n fun i hi => h i (by omega)
    obtain ⟨x, hx⟩ := h n (by omega)
    refine ⟨xs ++ [x], by simp [h1], fun i y hy => ?_⟩
    by_cases hi : i < n
    · rw [List.getElem?_append_left (by omega)] at hy
      exact h2 i y hy
    · have hin : i < (xs ++ [x]).length := (List.getElem?_eq_some_iff.1 hy).1
      have : i = n := by simp [h1] at hin; omega
      subst this
      rw [List.getElem?_append_right (by omega)] at hy
      simp [h1] at hy
      subst hy
      exact hx
/-! ### The reading of the arguments -/
section
variable {H : Type} {enc : TypeId × Value → H} {P : Program} {w : World} {spare : Nat → Bool} {held : Bool} {fuel : Nat} {t : TypeId} {cs : List Value} {x : DataW H × List MemPlace}
theorem cells?_at {a : Addr} {m : Nat} {cs : List Value} (h : w.cells? 0 a m = some cs) : cs.length = m ∧ CellsAt (wmem w) a cs := by
  unfold World.cells? at h
  rw [if_pos (Nat.zero_le _)] at h
  refine ⟨by simpa using mapM_some_length h, fun j v hj => ?_⟩
  have hlt : j < m := by
    have h1 := (List.getElem?_eq_some_iff.1 hj).1
    have h2 := mapM_some_length h
    simp at h2
    omega
  have := mapM_some_get h j j (by simp [hlt])
  rw [wmem_cell, this, hj]
theorem SlC.of_trod {e : TypeId} (ht : P.underlying t = some (.slice e)) (hc : P.cellsOf e = es) (h : DataW.trod enc P w 0 spare held fuel t cs = some x)
    (hR : ∀ n cs' x', n < fuel → cs'.length = es → DataW.trod enc P w 0 spare held n e cs' = some x' → ∃ y, R y cs') : ∃ base n cap xs, cs = [.slice base n cap] ∧ SlC R (wmem w) es base n xs := by
  rcases DataW.trod_slice ht h with ⟨rfl, rfl⟩ | ⟨a, len, cap, elems, rest, n, rfl, rfl, rfl, _, h1, h2, h3, h4, _⟩
  · exact ⟨none, 0, 0, [], rfl, SlC.nil trivial⟩
  · subst hc
    obtain ⟨xs, g1, g2⟩ := exists_list (Pr := fun i (y : α) => ∃ cs', w.cells? 0 (a.add (i * P.cellsOf e)) (P.cellsOf e) = some cs' ∧ R y cs') len fun i hi => by
      have := h4 i hi
      rw [List.getElem?_eq_getElem (by omega)] at this
      obtain ⟨cs', k1, k2⟩ := Option.bind_eq_some_iff.1 this
      obtain ⟨y, hy⟩ := hR n cs' _ (Nat.lt_succ_self _) (cells?_at k1).1 k2
      exact ⟨y, cs', k1, hy⟩
    refine ⟨some a, len, cap, xs, rfl, g1, by omega, fun i y hy => ?_⟩
    obtain ⟨cs', k1, k2⟩ := g2 i y hy
    obtain ⟨k3, k4⟩ := cells?_at k1
    exact ⟨a, cs', rfl, k3, k4, k2⟩
end
end
end Go.Vx
