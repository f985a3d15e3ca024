/- Terms, plain: shapes, sizes, variables. -/
import Derived.Test.YtjgohkogcdmbdaaVh
namespace Go.Vx
open Go.Proofs Classical
def Str.nil : ByteArray := ⟨#[]⟩
/-- Terms that are well-formed. -/
inductive T where
  | nil
  | var (n : Int)
  | sym (s : ByteArray)
  | num (n : Int)
  | pair (a b : T)
def T.tm : T → Tm
  | .nil => .mk 0 0 ⟨#[]⟩ []
  | .var n => .mk 1 n ⟨#[]⟩ []
  | .sym s => .mk 2 0 s []
  | .num n => .mk 3 n ⟨#[]⟩ []
  | .pair a b => .mk 4 0 ⟨#[]⟩ [a.tm, b.tm]
def T.good : T → Prop
  | .nil => True
  | .var n => 0 ≤ n ∧ n ≤ 100000
  | .sym s => IsNm s
  | .num n => -1000000000 ≤ n ∧ n ≤ 1000000000
  | .pair a b => a.good ∧ b.good
def T.size : T → Nat
  | .pair a b => 1 + a.size + b.size
  | .nil => 1
  | .var _ => 1
  | .sym _ => 1
  | .num _ => 1
def T.vars : T → List Int
  | .var n => [n]
  | .pair a b => a.vars ++ b.vars
  | .nil => []
  | .sym _ => []
  | .num _ => []
def T.ok (x : T) : Prop := x.good ∧ x.size ≤ 5000
mutual
def Tm.cnt : Tm → Nat
  | .mk _ _ _ l => 1 + Tm.cnts l
def Tm.cnts : List Tm → Nat
  | [] => 0
  | t :: r => t.cnt + Tm.cnts r
end
def Tm.Sh (t : Tm) : Prop := ∃ x : T, x.good ∧ x.tm = t
def Tm.Ok (t : Tm) : Prop := t.Sh ∧ t.cnt ≤ 5000
theorem T.cnt_tm : ∀ x : T, x.tm.cnt = x.size
  | .nil => rfl
  | .var _ => rfl
  | .sym _ => rfl
  | .num _ => rfl
  | .pair a b => by simp [T.tm, Tm.cnt, Tm.cnts, T.size, T.cnt_tm a, T.cnt_tm b]; omega
theorem T.size_pos : ∀ x : T, 1 ≤ x.size
  | .nil => by simp [T.size]
  | .var _ => by simp [T.size]
  | .sym _ => by simp [T.size]
  | .num _ => by simp [T.size]
  | .pair a b => by simp [T.size]; omega
theorem Tm.cnt_pos (t : Tm) : 1 ≤ t.cnt := by cases t; simp [Tm.cnt]
theorem Tm.Ok.lift {t : Tm} (h : t.Ok) : ∃ x : T, x.ok ∧ t = x.tm := by
  obtain ⟨⟨x, h1, rfl⟩, h2⟩ := h
  rw [T.cnt_tm] at h2
  exact ⟨x, ⟨h1, h2⟩, rfl⟩
theorem T.ok.tm {x : T} (h : x.ok) : x.tm.Ok := ⟨⟨x, h.1, rfl⟩, by rw [T.cnt_tm]; exact h.2⟩
/-- What makes a shape well-formed. -/
theorem Tm.Sh_iff (k n : Int) (s : ByteArray) (l : List Tm) : (Tm.mk k n s l).Sh ↔
    (k = 0 ∧ n = 0 ∧ s = ⟨#[]⟩ ∧ l = []) ∨ (k = 1 ∧ 0 ≤ n ∧ n ≤ 100000 ∧ s = ⟨#[]⟩ ∧ l = []) ∨ (k = 2 ∧ n = 0 ∧ IsNm s ∧ l = []) ∨ (k = 3 ∧ -1000000000 ≤ n ∧ n ≤ 1000000000 ∧ s = ⟨#[]⟩ ∧ l = []) ∨
    (k = 4 ∧ n = 0 ∧ s = ⟨#[]⟩ ∧ ∃ a b, l = [a, b] ∧ a.Sh ∧ b.Sh) := by
  constructor
  · rintro ⟨x, hx, e⟩
    cases x <;> simp only [T.tm, Tm.mk.injEq] at e <;> obtain ⟨rfl, rfl, rfl, rfl⟩ := e <;> simp only [T.good] at hx
    · simp
    · right; left; simp [hx]
    · right; right; left; simp [hx]
    · right; right; right; left; simp [hx]
    · right; right; right; right
      exact ⟨rfl, rfl, rfl, _, _, rfl, ⟨_, hx.1, rfl⟩, ⟨_, hx.2, rfl⟩⟩
  · rintro (⟨rfl, rfl, rfl, rfl⟩ | ⟨rfl, h1, h2, rfl, rfl⟩ | ⟨rfl, rfl, h1, rfl⟩ | ⟨rfl, h1, h2, rfl, rfl⟩ | ⟨rfl, rfl, rfl, a, b, rfl, ⟨x, h1, rfl⟩, ⟨y, h2, rfl⟩⟩)
    · exact ⟨.nil, trivial, rfl⟩
    · exact ⟨.var n, ⟨h1, h2⟩, rfl⟩
    · exact ⟨.sym s, h1, rfl⟩
    · exact ⟨.num n, ⟨h1, h2⟩, rfl⟩
    · exact ⟨.pair x y, ⟨h1, h2⟩, rfl⟩
theorem Tm.Sh_iff' (k n : Int) (s : ByteArray) (l : List Tm) : (Tm.mk k n s l).Sh ↔
    (k = 0 ∧ n = 0 ∧ s = ⟨#[]⟩ ∧ l.length = 0) ∨ (k = 1 ∧ 0 ≤ n ∧ n ≤ 100000 ∧ s = ⟨#[]⟩ ∧ l.length = 0) ∨ (k = 2 ∧ n = 0 ∧ IsNm s ∧ l.length = 0) ∨ (k = 3 ∧ -1000000000 ≤ n ∧ n ≤ 1000000000 ∧ s = ⟨#[]⟩ ∧ l.length = 0) ∨
    (k = 4 ∧ n = 0 ∧ s = ⟨#[]⟩ ∧ l.length = 2 ∧ ∃ a b, l = [a, b] ∧ a.Sh ∧ b.Sh) := by
  have h0 : l.length = 0 ↔ l = [] := List.length_eq_zero_iff
  have h2 : (l.length = 2 ∧ ∃ a b, l = [a, b] ∧ a.Sh ∧ b.Sh) ↔ ∃ a b, l = [a, b] ∧ a.Sh ∧ b.Sh := ⟨fun h => h.2, fun h => ⟨by obtain ⟨a, b, rfl, _⟩ := h; rfl, h⟩⟩
  rw [Tm.Sh_iff, h0, h2]
/-- A shape is ill-formed, a test says. -/
theorem isF {p : Prop} {_ : Decidable p} (h : ¬ p) : Value.bool false = .bool (decide p) := by rw [decide_eq_false h]
theorem isT {p : Prop} {_ : Decidable p} (h : p) : Value.bool true = .bool (decide p) := by rw [decide_eq_true h]
theorem isI {p q : Prop} {_ : Decidable p} {_ : Decidable q} (h : p ↔ q) : Value.bool (decide p) = .bool (decide q) := by simp only [h]
theorem two_of {α : Type} : ∀ {l : List α}, ((l.length : Nat) : Int) = 2 → ∃ a b, l = [a, b]
  | [a, b], _ => ⟨a, b, rfl⟩
  | [], h => by simp at h
  | [_], h => by simp at h
  | _ :: _ :: _ :: _, h => by simp at h; omega
theorem T.tm_inj : ∀ {x y : T}, x.tm = y.tm → x = y
  | .nil, y, h => by cases y <;> simp_all [T.tm]
  | .var n, y, h => by cases y <;> simp_all [T.tm]
  | .sym s, y, h => by cases y <;> simp_all [T.tm]
  | .num n, y, h => by cases y <;> simp_all [T.tm]
  | .pair a b, y, h => by
    cases y <;> simp [T.tm] at h
    rw [T.tm_inj h.1, T.tm_inj h.2]
theorem lift_ok : ∀ {l : List Tm}, (∀ t ∈ l, t.Ok) → ∃ xs : List T, l = xs.map T.tm ∧ ∀ x ∈ xs, x.ok
  | [], _ => ⟨[], rfl, by simp⟩
  | t :: l, h => by
    obtain ⟨x, h1, rfl⟩ := (h t (by simp)).lift
    obtain ⟨xs, rfl, h2⟩ := lift_ok (l := l) fun t ht => h t (by simp [ht])
    exact ⟨x :: xs, rfl, by simp; exact ⟨h1, h2⟩⟩
end Go.Vx
