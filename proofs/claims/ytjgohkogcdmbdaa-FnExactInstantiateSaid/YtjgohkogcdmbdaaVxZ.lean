/- Sizes and widths of data; what is asked of the elements of slices. -/
import Derived.Test.YtjgohkogcdmbdaaVxY
namespace Go.Vx
mutual
/-- What a law's budget takes off for data: the bytes of strings, the elements of slices. -/
def D.sz : D → Nat
  | .i _ => 0
  | .b _ => 0
  | .s x => x.size
  | .st fs => D.szs fs
  | .sl _ xs => xs.length + D.szs xs
def D.szs : List D → Nat
  | [] => 0
  | d :: r => d.sz + D.szs r
end
mutual
/-- All strings are as short as the machine has them. -/
def D.wd : D → Prop
  | .i n => InR n
  | .b _ => True
  | .s x => x.size ≤ maxLen
  | .st fs => D.wds fs
  | .sl _ xs => D.wds xs
def D.wds : List D → Prop
  | [] => True
  | d :: r => d.wd ∧ D.wds r
end
theorem D.szs_append : ∀ (a c : List D), D.szs (a ++ c) = D.szs a + D.szs c
  | [], c => by simp [D.szs]
  | d :: r, c => by simp [D.szs, D.szs_append r c, Nat.add_assoc]
theorem D.szs_take {xs : List D} {j : Nat} {x : D} (h : xs[j]? = some x) : D.szs (xs.take (j + 1)) = D.szs (xs.take j) + x.sz := by
  rw [List.take_add_one, h, Option.toList_some, D.szs_append]; simp [D.szs]
theorem D.szs_le (xs : List D) (j : Nat) : D.szs (xs.take j) ≤ D.szs xs := by
  have := D.szs_append (xs.take j) (xs.drop j)
  rw [List.take_append_drop] at this; omega
theorem D.szs_one {xs : List D} {j : Nat} {x : D} (h : xs[j]? = some x) : D.szs (xs.take j) + x.sz ≤ D.szs xs := by
  rw [← D.szs_take h]; exact D.szs_le _ _
theorem D.szs_mem {xs : List D} {j : Nat} {x : D} (h : xs[j]? = some x) : x.sz ≤ D.szs xs := by
  have := D.szs_one h; omega
theorem D.wds_mem : ∀ {xs : List D}, D.wds xs → ∀ x ∈ xs, x.wd
  | [], _, x, h => by cases h
  | d :: r, k, x, h => by
    rcases List.mem_cons.1 h with rfl | h
    · exact k.1
    · exact D.wds_mem k.2 x h
theorem D.wds_of : ∀ {xs : List D}, (∀ x ∈ xs, x.wd) → D.wds xs
  | [], _ => trivial
  | d :: r, k => ⟨k d (by simp), D.wds_of fun x h => k x (by simp [h])⟩
theorem at_map {α : Type} {f : α → D} {l : List α} {j : Nat} {a : α} (h : l[j]? = some a) : (l.map f)[j]? = some (f a) := by simp [h]
theorem mem_at {α : Type} {l : List α} {j : Nat} {a : α} (h : l[j]? = some a) : a ∈ l := by
  obtain ⟨h1, h2⟩ := List.getElem?_eq_some_iff.1 h
  rw [← h2]; exact List.getElem_mem h1
theorem maxLen_le {n : Nat} (h : n ≤ maxLen) : (n : Int) ≤ 9223372036854775807 := by
  have := Nat.le_trans h (show maxLen ≤ 9223372036854775807 by decide); omega
/-- A row of data that is being filled: its first k elements are done. -/
structure Filled (es : Nat) (z : Value) (μ μ' : Mem) (ds : List D) (k : Nat) (ys : List Value) (g : Mem) : Prop where
  le : k ≤ ds.length
  len : ys.length = ds.length
  done : OwnRows es (ds.take k) (ys.take k) g
  rest : ∀ j, k ≤ j → j < ds.length → ys[j]? = some z
  sub : g.Le μ'
  new : ∀ x, g x ≠ none → μ x = none
  grow : μ.Le μ'
theorem Filled.start {es : Nat} {z : Value} {μ : Mem} {ds : List D} {n : Nat} (h : ds.length = n) : Filled es z μ μ ds 0 (List.replicate n z) Mem.nil :=
  ⟨by simp, by simp [h], by simpa using OwnRows.nil es, fun j _ hj => by rw [List.getElem?_replicate, if_pos (by omega)], (fun _ _ h => nomatch h), fun _ h => absurd rfl h, Mem.Le.refl μ⟩
theorem Filled.step {es : Nat} {z : Value} {μ μ' μ'' : Mem} {ds : List D} {k : Nat} {ys : List Value} {g : Mem} (f : Filled es z μ μ' ds k ys g) {d : D} {v : Value} (hd : ds[k]? = some d) (hn : d.n = es) (hv : Fresh μ' μ'' d v) (hl : μ'.Le μ'') :
    ∃ g', Filled es z μ μ'' ds (k + 1) (ys.set k v) g' := by
  obtain ⟨g', h1, h2, h3⟩ := hv
  have hk : k < ds.length := (List.getElem?_eq_some_iff.1 hd).1
  have hlen := f.len
  refine ⟨g.join g', ⟨hk, by simpa using f.len, ?_, fun j hj hj' => ?_, join_le (f.sub.trans hl) h2, fun x hx => ?_, f.grow.trans hl⟩⟩
  · rw [List.take_add_one, hd, Option.toList_some, List.take_add_one, List.getElem?_set_self (by omega), Option.toList_some, List.take_set_of_le (Nat.le_refl k)]
    exact f.done.snoc h1 hn (fresh_apart f.sub h3)
  · rw [List.getElem?_set_ne (by omega)]
    exact f.rest j (by omega) hj'
  · rcases join_ne hx with h | h
    · exact f.new x h
    · cases h0 : μ x with
      | none => rfl
      | some o => have := h3 x h; rw [f.grow x o h0] at this; cases this
theorem Filled.all {es : Nat} {z : Value} {μ μ' : Mem} {ds : List D} {k : Nat} {ys : List Value} {g : Mem} (f : Filled es z μ μ' ds k ys g) (hk : k = ds.length) : OwnRows es ds ys g := by
  subst hk
  have := f.done
  rwa [List.take_length, List.take_of_length_le (by rw [f.len]; exact Nat.le_refl _)] at this
theorem ElemAt.mono {μ μ' : Mem} (h : μ.Le μ') {base : Option Addr} {n es : Nat} {i : Int} {a : Addr} {cs : List Value} (k : ElemAt μ base n es i a cs) : ElemAt μ' base n es i a cs :=
  ⟨k.lo, k.hi, k.addr, k.len, fun j v hj => h.cell (k.cell j v hj)⟩
theorem Sl.mono {μ μ' : Mem} (h : μ.Le μ') {es n : Nat} {base : Option Addr} {xs : List D} (k : Sl μ es base n xs) : Sl μ' es base n xs :=
  ⟨k.len, k.max, fun i x hx => by
    obtain ⟨a, cs, h1, h2⟩ := k.get i x hx
    exact ⟨a, cs, h1.mono h, Rep.mono h x cs h2⟩⟩
end Go.Vx
