/- What the law calls of terms and bindings read. -/
import Derived.Test.YtjgohkogcdmbdaaVi
import Derived.Test.YtjgohkogcdmbdaaVd
namespace Go.Vx
open Go.Proofs
theorem read_Term : Reads Try.prog 45 fun d => ∃ t : Tm, d = t.d ∧ t.d.wd := fun n => by
  induction n using Nat.strongRecOn with
  | ind n ih =>
    match n, ih with
    | 0, _ => exact ReadsTo.zero _
    | n + 1, ih =>
      have hs : ReadsTo Try.prog n 37 fun d => ∃ xs, d = .sl 4 xs ∧ ∀ x ∈ xs, ∃ t : Tm, x = t.d ∧ t.d.wd := by
        match n, ih with
        | 0, _ => exact ReadsTo.zero _
        | n + 1, ih => exact reads_slice ti37.kind (cellsOf_tt ti45) (ih n (by omega)) (fun d h => by obtain ⟨t, rfl, _⟩ := h; exact Tm.d_n t)
      exact (reads_struct ti45 rfl (FieldsTo.cons ti3 (reads_int und_int n) (FieldsTo.cons ti3 (reads_int und_int n) (FieldsTo.cons ti9 (reads_str und_string n) (FieldsTo.cons ti37 hs FieldsTo.nil))))).weaken fun d h => by
        obtain ⟨ds, rfl, h⟩ := h
        obtain ⟨_, _, rfl, ⟨k, rfl, hk⟩, q1⟩ := h.cons
        obtain ⟨_, _, rfl, ⟨n, rfl, hn⟩, q2⟩ := q1.cons
        obtain ⟨_, _, rfl, ⟨s, rfl, hs⟩, q3⟩ := q2.cons
        obtain ⟨_, _, rfl, ⟨xs, rfl, hx⟩, q4⟩ := q3.cons
        obtain rfl := q4.nil
        obtain ⟨l, rfl⟩ := lift_list (f := Tm.d) fun x h => by obtain ⟨t, h, _⟩ := hx x h; exact ⟨t, h⟩
        refine ⟨.mk k n s l, (Tm.d_mk _ _ _ _).symm, ?_⟩
        rw [Tm.d_mk]
        exact ⟨hk, hn, hs, D.wds_of fun x hm => by obtain ⟨t, rfl, h⟩ := hx x hm; exact h, trivial⟩
theorem read_TermS : Reads Try.prog 37 fun d => ∃ l : List Tm, d = .sl 4 (l.map Tm.d) ∧ D.wds (l.map Tm.d) := fun n =>
  (reads_sl ti37.kind (cellsOf_tt ti45) (fun d h => by obtain ⟨a, rfl, _⟩ := h; exact Tm.d_n a) read_Term n).weaken fun d h => by
    obtain ⟨xs, rfl, hx⟩ := h
    obtain ⟨l, rfl⟩ := lift_list (f := Tm.d) fun x h => by obtain ⟨t, h, _⟩ := hx x h; exact ⟨t, h⟩
    exact ⟨l, rfl, D.wds_of fun x hm => by obtain ⟨t, rfl, h⟩ := hx x hm; exact h⟩
theorem read_Binding : Reads Try.prog 77 fun d => ∃ b : Bd, d = b.d ∧ b.d.wd
  | 0 => ReadsTo.zero _
  | n + 1 => (reads_struct ti77 rfl (FieldsTo.cons ti3 (reads_int und_int n) (FieldsTo.cons ti45 (read_Term n) FieldsTo.nil))).weaken fun d h => by
    obtain ⟨ds, rfl, h⟩ := h
    obtain ⟨_, _, rfl, ⟨v, rfl, hv⟩, q1⟩ := h.cons
    obtain ⟨_, _, rfl, ⟨t, rfl, ht⟩, q2⟩ := q1.cons
    obtain rfl := q2.nil
    exact ⟨⟨v, t⟩, rfl, hv, ht, trivial⟩
theorem read_BindingS : Reads Try.prog 46 fun d => ∃ l : List Bd, d = .sl 5 (l.map Bd.d) ∧ D.wds (l.map Bd.d) := fun n =>
  (reads_sl ti46.kind (cellsOf_tt ti77) (fun d h => by obtain ⟨a, rfl, _⟩ := h; exact Bd.d_n a) read_Binding n).weaken fun d h => by
    obtain ⟨xs, rfl, hx⟩ := h
    obtain ⟨l, rfl⟩ := lift_list (f := Bd.d) fun x h => by obtain ⟨t, h, _⟩ := hx x h; exact ⟨t, h⟩
    exact ⟨l, rfl, D.wds_of fun x hm => by obtain ⟨t, rfl, h⟩ := hx x hm; exact h⟩
end Go.Vx
