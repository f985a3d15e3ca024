/- What the law calls of arcs and graphs read. -/
import Derived.Test.YtjgohkogcdmbdaaVc
import Derived.Test.YtjgohkogcdmbdaaVxX
namespace Go.Vx
open Go.Proofs
theorem und_int : Try.prog.underlying 3 = some (.int .i64) := ti3.kind
theorem und_bool : Try.prog.underlying 4 = some .bool := ti4.kind
theorem und_string : Try.prog.underlying 9 = some .string := ti9.kind
theorem lift_list {α : Type} {f : α → D} : ∀ {xs : List D}, (∀ x ∈ xs, ∃ a, x = f a) → ∃ l : List α, xs = l.map f
  | [], _ => ⟨[], rfl⟩
  | x :: xs, h => by
    obtain ⟨a, rfl⟩ := h x (by simp)
    obtain ⟨l, rfl⟩ := lift_list (xs := xs) fun y hy => h y (by simp [hy])
    exact ⟨a :: l, rfl⟩
theorem cellsOf_tt {P : Program} {t : TypeId} {i : TI} (h : TIok P t i) : P.cellsOf t = i.size := by
  obtain ⟨inf, hin, hs, _⟩ := h.info'
  simp [Program.cellsOf, hin, hs]
theorem read_Arc : Reads Try.prog 90 fun d => ∃ a : Arc, d = a.d
  | 0 => ReadsTo.zero _
  | n + 1 => (reads_struct ti90 rfl (FieldsTo.cons ti3 (reads_int und_int n) (FieldsTo.cons ti3 (reads_int und_int n) (FieldsTo.cons ti4 (reads_bool und_bool n) FieldsTo.nil)))).weaken fun d h => by
    obtain ⟨ds, rfl, h⟩ := h
    obtain ⟨_, _, rfl, ⟨n1, rfl, _⟩, q1⟩ := h.cons
    obtain ⟨_, _, rfl, ⟨n2, rfl, _⟩, q2⟩ := q1.cons
    obtain ⟨_, _, rfl, ⟨b, rfl⟩, q3⟩ := q2.cons
    obtain rfl := q3.nil
    exact ⟨⟨n1, n2, b⟩, rfl⟩
theorem read_ArcS : Reads Try.prog 22 fun d => ∃ l : List Arc, d = .sl 3 (l.map Arc.d) := fun n =>
  (reads_sl ti22.kind (cellsOf_tt ti90) (fun d h => by obtain ⟨a, rfl⟩ := h; rfl) read_Arc n).weaken fun d h => by
    obtain ⟨xs, rfl, h⟩ := h
    obtain ⟨l, rfl⟩ := lift_list h
    exact ⟨l, rfl⟩
theorem read_Graph : Reads Try.prog 24 fun d => ∃ g : Graph, d = g.d ∧ g.caller.size ≤ maxLen ∧ g.callee.size ≤ maxLen
  | 0 => ReadsTo.zero _
  | n + 1 => (reads_struct ti24 rfl (FieldsTo.cons ti9 (reads_str und_string n) (FieldsTo.cons ti9 (reads_str und_string n) (FieldsTo.cons ti22 (read_ArcS n) FieldsTo.nil)))).weaken fun d h => by
    obtain ⟨ds, rfl, h⟩ := h
    obtain ⟨_, _, rfl, ⟨n1, rfl, h1⟩, q1⟩ := h.cons
    obtain ⟨_, _, rfl, ⟨n2, rfl, h2⟩, q2⟩ := q1.cons
    obtain ⟨_, _, rfl, ⟨l, rfl⟩, q3⟩ := q2.cons
    obtain rfl := q3.nil
    exact ⟨⟨n1, n2, l⟩, rfl, h1, h2⟩
end Go.Vx
