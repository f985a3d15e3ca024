/- Contracts: names of relations, arcs, graphs. -/
import Derived.Test.YtjgohkogcdmbdaaVa
namespace Go.Vx
open Go.Proofs Classical
/-! ### Names of relations -/
def rsv : List ByteArray := [⟨#[116, 114, 117, 101]⟩, ⟨#[102, 97, 105, 108]⟩, ⟨#[115, 121, 109, 98, 111, 108]⟩, ⟨#[110, 117, 109, 98, 101, 114]⟩, ⟨#[97, 98, 115, 101, 110, 116]⟩, ⟨#[97, 110, 100]⟩, ⟨#[111, 114]⟩, ⟨#[110, 111, 116]⟩, ⟨#[100, 101, 102, 105, 110, 101]⟩]
def IsRel (s : ByteArray) : Prop := s ∉ rsv ∧ IsNm s
theorem impl_IsRelName_spec (s : ByteArray) (μ : Mem) : Gives Try.prog 42 [.string s] μ (.bool (decide (IsRel s))) := by
  refine Spec.mk Try.func42 (by kernel_rfl) ?_
  have bad : s ∈ rsv → Value.bool false = .bool (decide (IsRel s)) := fun h => by
    have : ¬ IsRel s := fun k => k.1 h
    simp [this]
  repeat' (first
    | refine ifd (fun h => ?_) (fun h => ?_) <;> try contradiction
    | refine call_gives (impl_IsName_spec s μ) (ret_gives ?_ rfl)
    | refine ret_gives ?_ rfl)
  all_goals first
    | (refine bad ?_; subst_vars; simp [rsv])
    | (have : s ∉ rsv := by simp only [rsv, List.mem_cons, List.not_mem_nil, or_false, not_or]; simp_all
       simp [IsRel, this])
theorem spec_IsRelName_spec (s : ByteArray) (hs : s.size ≤ maxLen) (μ : Mem) : Gives Try.prog 40 [.string s] μ (.bool (decide (IsRel s))) := by
  refine Spec.mk Try.func40 (by kernel_rfl) ?_
  have bad : s ∈ rsv → Value.bool false = .bool (decide (IsRel s)) := fun h => by
    have : ¬ IsRel s := fun k => k.1 h
    simp [this]
  intro r
  refine loop_intro (fun i : Nat => i ≤ 9 ∧ ∀ x ∈ rsv.take i, x ≠ s) (fun i => ⟨[(0, .val (.string s)), (5, .row 0 (some r) 9 9), (6, .val (.int .i64 9)), (7, .val (.int .i64 i))], [(0, some (.row (some r) 9 9 1 (rsv.map .string)))], 1, μ, Mem.nil⟩) (fun i => 9 - i)
    0 ⟨by omega, by simp⟩ (fun i => ⟨rfl, rfl⟩) ⟨⟨rfl, rfl, rfl, rfl, trivial⟩, ⟨rfl, trivial⟩, rfl, rfl⟩ ?_
  rintro i ⟨hi, hall⟩
  refine ifd (fun h => ?_) (fun h => ?_)
  · have hi : i < 9 := by omega
    obtain ⟨x, hx⟩ : ∃ x, rsv[i]? = some x := ⟨_, List.getElem?_eq_getElem (by simpa [rsv] using hi)⟩
    refine rel_intro i rfl (by omega) (get_intro (.string x) (by simp [hx]) ?_)
    refine ifd (fun h => ret_gives (bad ?_) rfl) (fun h => ?_)
    · subst h; exact List.mem_of_getElem? hx
    · refine num64 (by omega) (by omega) ⟨i + 1, ⟨by omega, fun y hy => ?_⟩, by omega, ⟨⟨rfl, rfl, rfl, rfl, trivial⟩, ⟨rfl, trivial⟩, rfl, rfl⟩⟩
      rw [List.take_add_one, hx] at hy
      simp only [Option.toList_some, List.mem_append, List.mem_singleton] at hy
      rcases hy with hy | rfl
      · exact hall y hy
      · exact h
  · refine call_gives (spec_IsName_spec s hs μ) (ret_gives ?_ rfl)
    have hi : i = 9 := by omega
    subst hi
    have : s ∉ rsv := fun k => hall s (by simpa [rsv] using k) rfl
    simp [IsRel, this]
/-! ### Arcs and graphs -/
structure Arc where
  src : Int
  dst : Int
  strict : Bool
def Arc.d (a : Arc) : D := .st [.i a.src, .i a.dst, .b a.strict]
structure Graph where
  caller : ByteArray
  callee : ByteArray
  arcs : List Arc
def Graph.d (g : Graph) : D := .st [.s g.caller, .s g.callee, .sl 3 (g.arcs.map Arc.d)]
section
variable {μ : Mem} {base : Option Addr} {n : Nat}
theorem Arc.elem {l : List Arc} (h : Sl μ 3 base n (l.map Arc.d)) {i : Nat} {a : Arc} (ha : l[i]? = some a) : ∃ ad, ElemAt μ base n 3 i ad [.int .i64 a.src, .int .i64 a.dst, .bool a.strict] := by
  obtain ⟨ad, cs, h1, h2⟩ := h.get i a.d (by simp [ha])
  simp [Arc.d, Rep, RepS] at h2
  subst h2
  exact ⟨ad, h1⟩
theorem Graph.inv {g : Graph} {v : Value} (h : RepV μ g.d v) : ∃ base cap, v = .agg #[.string g.caller, .string g.callee, .slice base g.arcs.length cap] ∧ Sl μ 3 base g.arcs.length (g.arcs.map Arc.d) := by
  obtain ⟨cs, rfl, h⟩ := h
  simp only [RepS] at h
  obtain ⟨c1, c2, rfl, h1, c3, c4, rfl, h2, c5, c6, rfl, h3, rfl⟩ := h
  have hl := Rep.len _ _ h3
  match c5, hl with
  | [v], _ =>
    obtain ⟨base, cap, rfl, h4⟩ := h3.sl
    simp only [List.length_map] at h4
    exact ⟨base, cap, by simp [Rep] at h1 h2; subst h1; subst h2; simp, h4⟩
def ArcIn (a : Arc) : Prop := (0 ≤ a.src ∧ a.src ≤ 3) ∧ 0 ≤ a.dst ∧ a.dst ≤ 3
def ArcLt (a b : Arc) : Prop := a.src < b.src ∨ (a.src = b.src ∧ a.dst < b.dst)
/-- The first i arcs are in order. -/
def ArcsTo (l : List Arc) (i : Nat) : Prop := (∀ j a, j < i → l[j]? = some a → ArcIn a) ∧ ∀ j a b, j + 1 < i → l[j]? = some a → l[j + 1]? = some b → ArcLt a b
def Graph.Ok (g : Graph) : Prop := ArcsTo g.arcs g.arcs.length ∧ IsRel g.caller ∧ IsRel g.callee
theorem ArcsTo.zero (l : List Arc) : ArcsTo l 0 := ⟨fun j a h => by omega, fun j a b h => by omega⟩
theorem ArcsTo.one {l : List Arc} {a : Arc} (h : l[0]? = some a) (k : ArcIn a) : ArcsTo l 1 :=
  ⟨fun j b hj hb => by obtain rfl : j = 0 := by omega
                       rw [h] at hb; cases hb; exact k, fun j a b h => by omega⟩
theorem ArcsTo.succ {l : List Arc} {i : Nat} {a b : Arc} (h : ArcsTo l (i + 1)) (ha : l[i]? = some a) (hb : l[i + 1]? = some b) (k : ArcIn b) (q : ArcLt a b) : ArcsTo l (i + 2) :=
  ⟨fun j c hj hc => by
    by_cases e : j = i + 1
    · subst e; rw [hb] at hc; cases hc; exact k
    · exact h.1 j c (by omega) hc, fun j c d hj hc hd => by
    by_cases e : j = i
    · subst e; rw [ha] at hc; rw [hb] at hd; cases hc; cases hd; exact q
    · exact h.2 j c d (by omega) hc hd⟩
theorem ArcsTo.bad_in {l : List Arc} {i : Nat} {a : Arc} (ha : l[i]? = some a) (k : ¬ ArcIn a) : ¬ ArcsTo l l.length := fun h => k (h.1 i a (List.getElem?_eq_some_iff.1 ha).1 ha)
theorem ArcsTo.bad_lt {l : List Arc} {i : Nat} {a b : Arc} (ha : l[i]? = some a) (hb : l[i + 1]? = some b) (k : ¬ ArcLt a b) : ¬ ArcsTo l l.length := fun h => k (h.2 i a b (List.getElem?_eq_some_iff.1 hb).1 ha hb)
theorem at_some {α : Type} {l : List α} {i : Nat} (h : i < l.length) : ∃ a, l[i]? = some a := ⟨_, List.getElem?_eq_getElem h⟩
theorem impl_GraphOk_spec {g : Graph} {v : Value} (hv : RepV μ g.d v) : Gives Try.prog 12 [v] μ (.bool (decide g.Ok)) := by
  obtain ⟨base, cap, rfl, hsl⟩ := Graph.inv hv
  have hmax : g.arcs.length ≤ 9223372036854775807 := Nat.le_trans hsl.max (by decide)
  refine Spec.mk Try.func12 (by kernel_rfl) ?_
  have bad : ¬ ArcsTo g.arcs g.arcs.length → Value.bool false = .bool (decide g.Ok) := fun h => by
    have : ¬ g.Ok := fun k => h k.1
    simp [this]
  intro r
  refine loop_intro (fun i : Nat => i ≤ g.arcs.length ∧ ArcsTo g.arcs i) (fun i => ⟨[(1, .loc 0 r 0), (7, .val (.slice base g.arcs.length cap)), (8, .val (.int .i64 g.arcs.length)), (9, .val (.int .i64 i))], [(0, some (.cells r [.val (.string g.caller), .val (.string g.callee), .val (.slice base g.arcs.length cap)] 29))], 1, μ, Mem.nil⟩) (fun i => g.arcs.length - i)
    0 ⟨by omega, ArcsTo.zero _⟩ (fun i => ⟨rfl, rfl⟩) ⟨⟨rfl, rfl, rfl, rfl, trivial⟩, ⟨rfl, trivial⟩, rfl, rfl⟩ ?_
  rintro i ⟨hi, hall⟩
  refine ifd (fun h => ?_) (fun h => ?_)
  · obtain ⟨a, ha⟩ := at_some (l := g.arcs) (i := i) (by omega)
    obtain ⟨ad, had⟩ := Arc.elem hsl ha
    have badi : ¬ ArcIn a → Value.bool false = .bool (decide g.Ok) := fun k => bad (ArcsTo.bad_in ha k)
    cases i with
    | zero =>
      refine elem_intro had ?_
      intro r1
      repeat' (first
        | refine ifd (fun h => ?_) (fun h => ?_)
        | refine if_intro (fun h => ?_) (fun h => ?_)
        | exact ret_gives (badi (by unfold ArcIn; omega)) rfl
        | (exfalso; omega)
        | refine num64 (by omega) (by omega) ⟨1, ⟨by omega, ArcsTo.one ha (by unfold ArcIn; omega)⟩, by omega, ⟨⟨rfl, rfl, rfl, rfl, trivial⟩, ⟨rfl, trivial⟩, rfl, rfl⟩⟩)
    | succ j =>
      obtain ⟨b, hb⟩ := at_some (l := g.arcs) (i := j) (by omega)
      obtain ⟨bd, hbd⟩ := Arc.elem hsl hb
      refine elem_intro had ?_
      intro r1
      repeat' (first
        | refine ifd (fun h => ?_) (fun h => ?_)
        | refine if_intro (fun h => ?_) (fun h => ?_)
        | exact ret_gives (badi (by unfold ArcIn; omega)) rfl
        | exact ret_gives (bad (ArcsTo.bad_lt hb ha (by unfold ArcLt; omega))) rfl
        | (exfalso; omega)
        | (refine num_eq (x := (j : Int)) ((wrap64 (by omega) (by omega)).trans (by omega)) (elem_intro hbd ?_); intro r2)
        | refine num64 (by omega) (by omega) ⟨j + 2, ⟨by omega, ArcsTo.succ hall hb ha (by unfold ArcIn; omega) (by unfold ArcLt; omega)⟩, by omega, ⟨⟨rfl, rfl, rfl, rfl, trivial⟩, ⟨rfl, trivial⟩, rfl, rfl⟩⟩)
  · have hok : ArcsTo g.arcs g.arcs.length := by
      have : i = g.arcs.length := by omega
      rw [← this]; exact hall
    refine call_gives (impl_IsRelName_spec _ _) ?_
    refine ifd (fun h1 => call_gives (impl_IsRelName_spec _ _) (ret_gives ?_ rfl)) (fun h1 => ret_gives ?_ rfl)
    · simp [Graph.Ok, hok, h1]
    · simp [Graph.Ok, h1]
theorem spec_GraphOk_spec {g : Graph} {v : Value} (hv : RepV μ g.d v) (h1 : g.caller.size ≤ maxLen) (h2 : g.callee.size ≤ maxLen) : Gives Try.prog 10 [v] μ (.bool (decide g.Ok)) := by
  obtain ⟨base, cap, rfl, hsl⟩ := Graph.inv hv
  have hmax : g.arcs.length ≤ 9223372036854775807 := Nat.le_trans hsl.max (by decide)
  refine Spec.mk Try.func10 (by kernel_rfl) ?_
  have bad : ¬ ArcsTo g.arcs g.arcs.length → Value.bool false = .bool (decide g.Ok) := fun h => by
    have : ¬ g.Ok := fun k => h k.1
    simp [this]
  intro r
  refine loop_intro (fun i : Nat => i ≤ g.arcs.length ∧ ArcsTo g.arcs i) (fun i => ⟨[(1, .loc 0 r 0), (6, .val (.slice base g.arcs.length cap)), (7, .val (.int .i64 g.arcs.length)), (8, .val (.int .i64 i))], [(0, some (.cells r [.val (.string g.caller), .val (.string g.callee), .val (.slice base g.arcs.length cap)] 29))], 1, μ, Mem.nil⟩) (fun i => g.arcs.length - i)
    0 ⟨by omega, ArcsTo.zero _⟩ (fun i => ⟨rfl, rfl⟩) ⟨⟨rfl, rfl, rfl, rfl, trivial⟩, ⟨rfl, trivial⟩, rfl, rfl⟩ ?_
  rintro i ⟨hi, hall⟩
  refine ifd (fun h => ?_) (fun h => ?_)
  · obtain ⟨a, ha⟩ := at_some (l := g.arcs) (i := i) (by omega)
    obtain ⟨ad, had⟩ := Arc.elem hsl ha
    have badi : ¬ ArcIn a → Value.bool false = .bool (decide g.Ok) := fun k => bad (ArcsTo.bad_in ha k)
    cases i with
    | zero =>
      refine elem_intro had ?_
      intro r1
      repeat' (first
        | refine call_gives (l01In_spec _ _ _ _) ?_
        | refine ifd (fun h => ?_) (fun h => ?_)
        | refine ifnd (fun h => ?_) (fun h => ?_)
        | exact ret_gives (badi (by unfold ArcIn; omega)) rfl
        | (exfalso; omega)
        | refine num64 (by omega) (by omega) ⟨1, ⟨by omega, ArcsTo.one ha (by unfold ArcIn; omega)⟩, by omega, ⟨⟨rfl, rfl, rfl, rfl, trivial⟩, ⟨rfl, trivial⟩, rfl, rfl⟩⟩)
    | succ j =>
      obtain ⟨b, hb⟩ := at_some (l := g.arcs) (i := j) (by omega)
      obtain ⟨bd, hbd⟩ := Arc.elem hsl hb
      have hbi : ArcIn b := hall.1 j b (by omega) hb
      unfold ArcIn at hbi
      refine elem_intro had ?_
      intro r1
      repeat' (first
        | refine call_gives (l01In_spec _ _ _ _) ?_
        | refine ifd (fun h => ?_) (fun h => ?_)
        | refine ifnd (fun h => ?_) (fun h => ?_)
        | exact ret_gives (badi (by unfold ArcIn; omega)) rfl
        | exact ret_gives (bad (ArcsTo.bad_lt hb ha (by unfold ArcLt; omega))) rfl
        | (exfalso; omega)
        | refine num_eq (x := (j : Int)) ((wrap64 (by omega) (by omega)).trans (by omega)) ?_
        | refine elem_intro hbd ?_
        | refine num64 (by omega) (by omega) ⟨j + 2, ⟨by omega, ArcsTo.succ hall hb ha (by unfold ArcIn; omega) (by unfold ArcLt; omega)⟩, by omega, ⟨⟨rfl, rfl, rfl, rfl, trivial⟩, ⟨rfl, trivial⟩, rfl, rfl⟩⟩
        | refine num64 (by omega) (by omega) ?_)
  · have hok : ArcsTo g.arcs g.arcs.length := by
      have : i = g.arcs.length := by omega
      rw [← this]; exact hall
    refine call_gives (spec_IsRelName_spec _ h1 _) ?_
    refine ifd (fun h1 => call_gives (spec_IsRelName_spec _ h2 _) (ret_gives ?_ rfl)) (fun h1 => ret_gives ?_ rfl)
    · simp [Graph.Ok, hok, h1]
    · simp [Graph.Ok, h1]
end
end Go.Vx
