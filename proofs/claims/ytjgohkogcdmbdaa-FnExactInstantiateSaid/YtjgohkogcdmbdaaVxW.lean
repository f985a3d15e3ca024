/- Rows of one's own data. -/
import Derived.Test.YtjgohkogcdmbdaaVxV
namespace Go.Vx
/-- Cells of single data own nothing. -/
theorem OwnS.int {n : Int} {r : List D} {h : Mem} {cs : List Value} (k : OwnS r h cs) : OwnS (.i n :: r) h (.int .i64 n :: cs) := ⟨[_], cs, _, _, rfl, Parts.nil_left h, ⟨rfl, rfl⟩, k⟩
theorem OwnS.bool {b : Bool} {r : List D} {h : Mem} {cs : List Value} (k : OwnS r h cs) : OwnS (.b b :: r) h (.bool b :: cs) := ⟨[_], cs, _, _, rfl, Parts.nil_left h, ⟨rfl, rfl⟩, k⟩
theorem OwnS.str {s : ByteArray} {r : List D} {h : Mem} {cs : List Value} (k : OwnS r h cs) : OwnS (.s s :: r) h (.string s :: cs) := ⟨[_], cs, _, _, rfl, Parts.nil_left h, ⟨rfl, rfl⟩, k⟩
theorem OwnS.nil : OwnS [] Mem.nil [] := ⟨rfl, rfl⟩
theorem OwnS.last {d : D} {h : Mem} {cs : List Value} (k : Own d h cs) : OwnS [d] h cs := by
  have := OwnS.cons (Parts.nil_right h) k OwnS.nil
  simpa using this
theorem RepS.last {μ : Mem} {d : D} {cs : List Value} (k : Rep μ d cs) : RepS μ [d] cs := ⟨cs, [], by simp, k, rfl⟩
theorem RepS.int {μ : Mem} {n : Int} {r : List D} {cs : List Value} (k : RepS μ r cs) : RepS μ (.i n :: r) (.int .i64 n :: cs) := ⟨[_], cs, rfl, rfl, k⟩
theorem RepS.bool {μ : Mem} {b : Bool} {r : List D} {cs : List Value} (k : RepS μ r cs) : RepS μ (.b b :: r) (.bool b :: cs) := ⟨[_], cs, rfl, rfl, k⟩
theorem RepS.str {μ : Mem} {s : ByteArray} {r : List D} {cs : List Value} (k : RepS μ r cs) : RepS μ (.s s :: r) (.string s :: cs) := ⟨[_], cs, rfl, rfl, k⟩
/-- A nil slice is the empty list. -/
theorem Own.nilSl (es : Nat) : Own (.sl es []) Mem.nil [.slice none 0 0] := ⟨none, 0, rfl, ⟨Nat.zero_le _, Nat.zero_le _⟩, by simp, .inl ⟨rfl, rfl⟩⟩
theorem Rep.nilSl {μ : Mem} (es : Nat) : Rep μ (.sl es []) [.slice none 0 0] := ⟨none, 0, rfl, ⟨Nat.zero_le _, Nat.zero_le _⟩, by simp, .inl rfl⟩
/-- A slice, its memory: the value's own form. -/
theorem Own.sl {es : Nat} {xs : List D} {h : Mem} {v : Value} (k : Own (.sl es xs) h [v]) : ∃ base cap, v = .slice base xs.length cap := by
  obtain ⟨base, cap, h1, _⟩ := k
  simp only [List.cons.injEq, and_true] at h1
  exact ⟨base, cap, h1⟩
/-- The elements of a row own g. -/
structure OwnRows (es : Nat) (ds : List D) (ys : List Value) (g : Mem) : Prop where
  own : OwnS ds g (ys.flatMap vcells)
  size : ∀ x ∈ ds, x.n = es
  len : ds.length = ys.length
theorem OwnRows.nil (es : Nat) : OwnRows es [] [] Mem.nil := ⟨⟨rfl, rfl⟩, by simp, rfl⟩
theorem OwnRows.snoc {es : Nat} {ds : List D} {ys : List Value} {g g' : Mem} {d : D} {v : Value} (k : OwnRows es ds ys g) (k' : OwnV d g' v) (hn : d.n = es) (ha : Apart g g') : OwnRows es (ds ++ [d]) (ys ++ [v]) (g.join g') :=
  ⟨by
    have := OwnS.append (Parts.join ha) k.own (OwnS.last k'.cells)
    simpa using this, by
    intro x hx
    rcases List.mem_append.1 hx with h | h
    · exact k.size x h
    · simp only [List.mem_singleton] at h; subst h; exact hn, by simp [k.len]⟩
theorem OwnRows.rows {es : Nat} {μ : Mem} {ds : List D} {ys : List Value} {g : Mem} (k : OwnRows es ds ys g) (hl : g.Le μ) : RepS μ ds (ys.flatMap vcells) := OwnS.rep _ _ _ k.own hl
/-- A row of one's own, frozen: fresh data. -/
theorem Fresh.ofRow {μ μ1 μ' g : Mem} {b : Option Nat} {cap es : Nat} {ds : List D} {ys : List Value} (k : OwnRows es ds ys g) (hg : g.Le μ1) (hf : ∀ x, g x ≠ none → μ x = none) (h0 : μ.Le μ1) (h1 : μ1.Le μ')
    (hb : ∀ r, b = some r → μ1 r = none) (hr : RowAt μ' b cap es ys) (hm : ys.length ≤ maxLen) : Fresh μ μ' (.sl es ds) (.slice (b.map fun r => ⟨r, 0, none⟩) ys.length cap) := by
  cases b with
  | none =>
    have : ys = [] := hr
    subst this
    have hd : ds = [] := List.eq_nil_of_length_eq_zero (by simpa using k.len)
    subst hd
    have hown : OwnV (.sl es []) Mem.nil (.slice none 0 cap) := ⟨none, cap, rfl, ⟨Nat.zero_le _, hm⟩, by simp, .inl ⟨rfl, rfl⟩⟩
    exact ⟨Mem.nil, hown, (fun _ _ h => nomatch h), fun _ h => absurd rfl h⟩
  | some r =>
    obtain ⟨h2, h3, arr, ty, h4, h5, h6⟩ := hr
    have hgr : g r = none := by
      cases h : g r with
      | none => rfl
      | some o => have := hb r rfl; rw [hg r o h] at this; cases this
    have e : arr.toList = ys.flatMap vcells ++ arr.toList.drop (ys.length * es) := by rw [← h6]; simp
    refine ⟨g.set r (.cells (List.toArray (ys.flatMap vcells ++ arr.toList.drop (ys.length * es))) ty (0, 0)), ⟨some ⟨r, 0, none⟩, cap, by simp [k.len], by rw [k.len]; exact ⟨h2, hm⟩, k.size, .inr ⟨r, _, _, ty, g, rfl, hgr, rfl, k.own⟩⟩, fun x o hx => ?_, fun x hx => ?_⟩
    · rw [Mem.set_get] at hx
      split at hx
      · rename_i e2
        subst e2
        cases hx
        rw [h4, ← e]
      · exact h1 x o (hg x o hx)
    · rw [Mem.set_get] at hx
      split at hx
      · rename_i e2
        subst e2
        cases h : μ x with
        | none => rfl
        | some o => have := hb x rfl; rw [h0 x o h] at this; cases this
      · exact hf x hx
/-- Fresh data of single cells. -/
theorem OwnV.slice {es : Nat} {xs : List D} {h : Mem} {v : Value} (k : OwnV (.sl es xs) h v) : ∃ base cap, v = .slice base xs.length cap := Own.sl k
theorem fresh_apart {μ g g' : Mem} (h : g.Le μ) (k : ∀ b, g' b ≠ none → μ b = none) : Apart g g' := fun b hb => by
  cases hg : g' b with
  | none => rfl
  | some o =>
    have h1 := k b (by simp [hg])
    cases h2 : g b with
    | none => exact absurd h2 hb
    | some o' => rw [h b o' h2] at h1; cases h1
theorem join_le {μ g g' : Mem} (h : g.Le μ) (k : g'.Le μ) : (g.join g').Le μ := fun b o hb => by
  rw [Mem.join_get] at hb
  split at hb
  · rename_i x hx; cases hb; exact h b _ hx
  · exact k b o hb
theorem join_ne {g g' : Mem} {b : Nat} (h : (g.join g') b ≠ none) : g b ≠ none ∨ g' b ≠ none := by
  rw [Mem.join_get] at h
  cases hg : g b with
  | none => rw [hg] at h; exact .inr h
  | some o => exact .inl (by simp)
/-- What is left of a budget. -/
def szR (left : Int) (n : Nat) : Int := if (n : Int) ≤ left then left - n else -1
theorem szR_neg {left : Int} {n : Nat} (h : left < n) : szR left n = -1 := by rw [szR, if_neg (by omega)]
theorem szR_pos {left : Int} {n : Nat} (h : (n : Int) ≤ left) : szR left n = left - n := by rw [szR, if_pos h]
theorem szR_lt {left : Int} {n : Nat} (h : szR left n < 0) : left < n := by
  rw [szR] at h
  split at h <;> omega
theorem szR_ge {left : Int} {n : Nat} (h : ¬ szR left n < 0) : (n : Int) ≤ left := by
  rw [szR] at h
  split at h <;> omega
end Go.Vx
