/- Texts of the proof, part 4. -/
import Derived.Orders
import Derived.Below
import Derived.WalkKit
import Derived.MapKept
import Derived.WideKeyMaps
import Derived.Maps.RangeRun
import Derived.Laws.Cover3
import Derived.Laws.IdiomStrings
import Derived.Laws.BytesString
import Derived.Deep.RegionHeld3
import Derived.Carry
import Derived.ChangeArms
import Derived.RowKit3
import Derived.Test.YtcpooehlndhcbaaChecked
import Derived.KernelRfl
import Derived.ProofKit
import Derived.OpenShut
import Derived.ChangeOld
import Derived.Handed
import Derived.JoinedOf
import Derived.Sort.AssemblyPlain
import Derived.Test.YtcpooehlndhcbaaM3
/- Contracts: which substitutions are fine. -/
namespace Go.Vx
open Go.Proofs Classical
/-! ### Plain -/
def bndOk (bs : List B) (b : B) : Prop := ¬ (b.to.tm.kind = 1 ∧ b.var ≤ b.to.tm.num) ∧ ∀ n ∈ b.to.vars, sub bs n = none
def substOk (l : List Bd) : Prop := valsOk l ∧ ∀ b ∈ l.map Bd.b, bndOk (l.map Bd.b) b
theorem B.bd_b (b : B) : b.bd.b = b := by
  cases b; simp [B.bd, Bd.b, T.toT_tm]
theorem B.map_b (bs : List B) : (bs.map B.bd).map Bd.b = bs := by
  rw [List.map_map]
  conv => rhs; rw [← List.map_id bs]
  exact List.map_congr_left fun b _ => B.bd_b b
/-- A fine list of bindings, as terms. -/
structure Vals (bs : List B) : Prop where
  ok : valsOk (bs.map B.bd)
theorem Vals.len {bs : List B} (h : Vals bs) : bs.length ≤ 400 := by have := h.ok.1; simpa using this
theorem Vals.srt {bs : List B} (h : Vals bs) : Srt bs := by have := h.ok.srt; rwa [B.map_b] at this
theorem Vals.var {bs : List B} (h : Vals bs) : ∀ b ∈ bs, 0 ≤ b.var ∧ b.var ≤ 100000 := fun b hb => by
  obtain ⟨i, hi⟩ := List.mem_iff_getElem?.1 hb
  exact (h.ok.2 i b.bd (by simp [hi])).1
theorem valsOk.vals {l : List Bd} (h : valsOk l) : ∃ bs : List B, l = bs.map B.bd ∧ Vals bs := ⟨l.map Bd.b, h.lift.1.symm, ⟨by rw [h.lift.1]; exact h⟩⟩
structure Subst (bs : List B) : Prop where
  vals : Vals bs
  bnd : ∀ b ∈ bs, bndOk bs b
theorem substOk_iff (bs : List B) : substOk (bs.map B.bd) ↔ Subst bs := by
  unfold substOk
  rw [B.map_b]
  exact ⟨fun h => ⟨⟨h.1⟩, h.2⟩, fun h => ⟨h.1.1, h.2⟩⟩
theorem substOk.subst {l : List Bd} (h : substOk l) : ∃ bs : List B, l = bs.map B.bd ∧ Subst bs := by
  obtain ⟨bs, rfl, _⟩ := h.1.vals
  exact ⟨bs, rfl, (substOk_iff bs).1 h⟩
section
variable {μ : Mem}
/-- A cell of one's own beside other memory. -/
def boolOn (H : Mem) (r : Nat) (b : Bool) : Mem := H.set r (.cells #[.bool b] 4 (0, 0))
end
end Go.Vx

/- Contracts: programs without negation. -/
namespace Go.Vx
open Go.Proofs Classical
/-- No negation in a goal. -/
def Gl.Pos (g : Gl) : Prop := ∀ x ∈ g.all, x.kind ≠ 10
theorem Gl.pos_eq (g : Gl) : g.Pos ↔ g.kind ≠ 10 ∧ ∀ x ∈ g.goals, x.Pos := by
  unfold Gl.Pos
  rw [Gl.all_eq]
  constructor
  · exact fun h => ⟨h g (by simp), fun x hx y hy => h y (List.mem_cons_of_mem _ (List.mem_flatMap.2 ⟨x, hx, hy⟩))⟩
  · rintro ⟨h1, h2⟩ x hx
    rcases List.mem_cons.1 hx with rfl | hx
    · exact h1
    · obtain ⟨y, hy, hx⟩ := List.mem_flatMap.1 hx
      exact h2 y hy x hx
def Pg.Pos (p : Pg) : Prop := p.Ok ∧ ∀ r ∈ p.rels, r.body.Pos
section
variable {μ : Mem}
theorem l14Only_spec : ∀ (g : Gl) {v : Value}, RepV μ g.d v → Gives Try.prog 31 [v, .bool false] μ (.bool (decide g.Pos)) :=
  Gl.ind fun g ih v hv => by
    obtain ⟨p, rfl, hts, hgs⟩ := Gl.inv hv
    have hn := maxLen_le hgs.max
    refine Spec.mk Try.func31 (by kernel_rfl) ?_
    intro r
    refine loop_intro (fun i : Nat => i ≤ g.goals.length ∧ ∀ (j : Nat) x, j < i → g.goals[j]? = some x → x.Pos)
      (fun i => ⟨[(1, .val (.bool false)), (2, .loc 0 r 0), (8, .val (.slice p.2.1 g.goals.length p.2.2)), (9, .val (.int .i64 g.goals.length)), (10, .val (.int .i64 i))], [(0, some (.cells r [.val (.int .i64 g.kind), .val (.string g.name), .val (.slice p.1.1 g.terms.length p.1.2), .val (.slice p.2.1 g.goals.length p.2.2)] 41))], 1, μ, Mem.nil⟩) (fun i => g.goals.length - i)
      0 ⟨Nat.zero_le _, fun j x h => by omega⟩ (fun _ => ⟨rfl, rfl⟩) ⟨⟨rfl, rfl, rfl, rfl, rfl, trivial⟩, ⟨rfl, trivial⟩, rfl, rfl⟩ ?_
    rintro i ⟨hi, hall⟩
    refine ifd (fun hlt => ?_) (fun hlt => ?_)
    · obtain ⟨t, ht⟩ := at_some (l := g.goals) (i := i) (by omega)
      obtain ⟨ad, p3, hel, hr⟩ := Gl.elem hgs ht
      refine elem_intro hel ?_
      intro r2
      refine call_gives (ih t (mem_at ht) hr) ?_
      refine ifnd (fun h => ret_gives ?_ rfl) (fun h => ?_)
      · rw [decide_eq_false fun k => h (((Gl.pos_eq g).1 k).2 t (mem_at ht))]
      · refine num64 (by omega) (by omega) ⟨i + 1, ⟨by omega, fun j y hj hy => ?_⟩, by omega, ⟨⟨rfl, rfl, rfl, rfl, rfl, trivial⟩, ⟨rfl, trivial⟩, rfl, rfl⟩⟩
        rcases Nat.lt_or_ge j i with h6 | h6
        · exact hall j y h6 hy
        · obtain rfl : j = i := by omega
          rw [ht] at hy; cases hy; exact h
    · obtain rfl : i = g.goals.length := by omega
      have hsub : ∀ x ∈ g.goals, x.Pos := fun x hx => by
        obtain ⟨j, hj⟩ := List.mem_iff_getElem?.1 hx
        exact hall j x (List.getElem?_eq_some_iff.1 hj).1 hj
      refine ifnd (fun h => ?_) (fun h => ?_)
      · refine if_intro (fun h => nomatch h) (fun _ => ?_)
        exact ret_gives (by rw [decide_eq_true ((Gl.pos_eq g).2 ⟨h, hsub⟩)]; rfl) rfl
      · exact ret_gives (by rw [decide_eq_false fun k => ((Gl.pos_eq g).1 k).1 h]) rfl
theorem l14All_spec {p : Pg} {v : Value} (hp : RepV μ p.d v) (hw : p.d.wd) : Spec Try.prog 20 [v, .bool false] μ fun r _ => r = .bool (decide p.Pos) := by
  obtain ⟨q, rfl, hrl⟩ := Pg.inv hp
  refine Spec.mk Try.func20 (by kernel_rfl) ?_
  intro r1
  refine call_plain (spec_ProgramOk_spec hp hw) fun v1 μ1 hle1 hR => ?_
  obtain rfl := hR
  refine ifnd (fun h => ret_plain (isF fun k => h k.1)) (fun hok => ?_)
  have hn := hok.1
  refine loop_intro (fun i : Nat => i ≤ p.rels.length ∧ ∀ (j : Nat) x, j < i → p.rels[j]? = some x → x.body.Pos)
    (fun i => ⟨[(1, .val (.bool false)), (11, .val (.slice q.1 p.rels.length q.2)), (12, .val (.int .i64 p.rels.length)), (13, .val (.int .i64 i))], [], 1, μ1, Mem.nil⟩) (fun i => p.rels.length - i)
    0 ⟨Nat.zero_le _, fun j x h => by omega⟩ (fun _ => ⟨rfl, rfl⟩) ⟨⟨rfl, rfl, rfl, rfl, trivial⟩, trivial, rfl, rfl⟩ ?_
  rintro i ⟨hi, hall⟩
  refine ifd (fun hlt => ?_) (fun hlt => ?_)
  · obtain ⟨x, hx⟩ := at_some (l := p.rels) (i := i) (by omega)
    obtain ⟨ad, q2, hel, hr, hb⟩ := Rl.elemA (hrl.mono hle1) hx
    have hb : RepV μ1 x.body.d (.agg (x.body.cs q2).toArray) := hb
    refine elem_intro hel ?_
    intro r2
    refine call_gives (l14Only_spec x.body hb) ?_
    refine ifnd (fun h => ret_plain (isF fun k => h (k.2 x (mem_at hx)))) (fun h => ?_)
    refine num64 (by omega) (by omega) ⟨i + 1, ⟨by omega, fun j y hj hy => ?_⟩, by omega, ⟨⟨rfl, rfl, rfl, rfl, trivial⟩, trivial, rfl, rfl⟩⟩
    rcases Nat.lt_or_ge j i with h6 | h6
    · exact hall j y h6 hy
    · obtain rfl : j = i := by omega
      rw [hx] at hy; cases hy; exact h
  · obtain rfl : i = p.rels.length := by omega
    exact ret_plain (isT ⟨hok, fun x hx => by
      obtain ⟨j, hj⟩ := List.mem_iff_getElem?.1 hx
      exact hall j x (List.getElem?_eq_some_iff.1 hj).1 hj⟩)
theorem spec_IsPositive_spec {p : Pg} {v : Value} (hp : RepV μ p.d v) (hw : p.d.wd) : Spec Try.prog 12 [v] μ fun r _ => r = .bool (decide p.Pos) := by
  obtain ⟨q, rfl, hrl⟩ := Pg.inv hp
  refine Spec.mk Try.func12 (by kernel_rfl) ?_
  intro r1
  refine call_plain (l14All_spec hp hw) fun v1 μ1 hle1 hR => ?_
  obtain rfl := hR
  exact ret_plain rfl
/-! ### The program's side -/
theorem negative1_spec (n : Int) : Gives Try.prog 59 [.int .i64 n] μ (.bool (decide (n = 10))) := by
  refine Spec.mk Try.func59 (by kernel_rfl) ?_
  exact ret_gives rfl rfl
theorem hasKind1_spec {H : Mem} {r3 : Nat} (r : Nat) (b : Bool) {g : Gl} {v : Value} (hv : RepV μ g.d v) (hne : r3 ≠ r) (h3 : H r3 = some (.cells #[.func (.func 59) #[] #[]] 89 (0, 0))) :
    SpecH Try.prog 74 [v, .pointer (some ⟨r, 0, none⟩), .pointer (some ⟨r3, 0, none⟩)] μ (boolOn H r b) fun r' μ' h' => r' = .tuple #[] ∧ μ' = μ ∧ h' = boolOn H r (b || decide (g.kind = 10)) := by
  obtain ⟨p, rfl, -, -⟩ := Gl.inv hv
  refine SpecH.mk [] Try.func74 (by kernel_rfl) ?_
  intro r0
  refine own_intro [.bool b] rfl (box_at (set_self _ _ _)) ?_
  refine if_intro (fun hb => ?_) (fun hb => ?_)
  · refine sto_intro (h := boolOn H r b) (a := ⟨r, 0, none⟩) [.bool b] 4 (set_self _ _ _) rfl (Nat.le_refl _) ?_
    exact ret_plain ⟨rfl, rfl, by rw [hb]; exact Mem.set_set _ _ _ _⟩
  · refine own_intro [.func (.func 59) #[] #[]] rfl (box_at ((Mem.set_ne hne).trans h3)) ?_
    refine call_gives (negative1_spec _) ?_
    refine sto_intro (h := boolOn H r b) (a := ⟨r, 0, none⟩) [.bool b] 4 (set_self _ _ _) rfl (Nat.le_refl _) ?_
    exact ret_plain ⟨rfl, rfl, by rw [hb]; exact Mem.set_set _ _ _ _⟩
theorem or_fold : ∀ (l : List Gl) (b : Bool), l.foldl (fun b g => b || decide (g.kind = 10)) b = (b || !decide (∀ x ∈ l, x.kind ≠ 10))
  | [], b => by simp
  | a :: l, b => by
    rw [List.foldl_cons, or_fold l]
    by_cases h : a.kind = 10 <;> cases b <;> simp [h]
theorem hasKind_spec {g : Gl} {v : Value} (hv : RepV μ g.d v) : Spec Try.prog 58 [v, .func (.func 59) #[] #[]] μ fun r μ' => r = .bool (!decide g.Pos) ∧ μ' = μ := by
  obtain ⟨p, rfl, -, -⟩ := Gl.inv hv
  refine Spec.mkO [3, 5] Try.func58 (by kernel_rfl) ?_
  intro r1 r3 hm3 ho3 r5 hm5 ho5
  have hne : r3 ≠ r5 := fun e => by
    subst e
    have h : Mem.set Mem.nil r3 _ r3 = none := ho5
    rw [Mem.set_at] at h; cases h
  refine sto_intro [.bool false] 4 (Mem.set_at _ _ _) rfl (Nat.le_refl _) ?_
  refine call_own (R := fun r μ' h' => r = .tuple #[] ∧ μ' = μ ∧ h' = boolOn (Mem.nil.set r3 (.cells #[.func (.func 59) #[] #[]] 89 (0, 0))) r5 (g.all.foldl (fun b g => b || decide (g.kind = 10)) false)) ?_ fun v μ' h' hle hap hR => ?_
  · have := eachGoal_rel (μ := μ) (fun b h => h = boolOn (Mem.nil.set r3 (.cells #[.func (.func 59) #[] #[]] 89 (0, 0))) r5 b) (fun b g => b || decide (g.kind = 10)) (fun _ => True) (k := 74) (caps := [.pointer (some ⟨r5, 0, none⟩), .pointer (some ⟨r3, 0, none⟩)])
      (fun s h x v _ hx hj => by subst hj; exact hasKind1_spec r5 s hx hne (Mem.set_at _ _ _)) g false _ hv (fun _ _ => trivial) rfl
    have e : ∀ X : Mem, ((X.set r5 (.cells #[.bool false] 4 (0, 0))).set r5 (.cells #[.bool false] 4 (0, 0))) = boolOn X r5 false := fun X => Mem.set_set _ _ _ _
    rw [← e] at this
    exact this
  obtain ⟨rfl, e4, rfl⟩ := hR
  obtain rfl := e4.symm
  rw [or_fold, Bool.false_or]
  refine own_intro [.bool (!decide (∀ x ∈ g.all, x.kind ≠ 10))] rfl (box_at (set_self _ _ _)) ?_
  exact ret_plain ⟨congrArg (fun b => Value.bool (!b)) (decide_eq_decide.2 Iff.rfl), rfl⟩
theorem negative_spec {g : Gl} {v : Value} (hv : RepV μ g.d v) : Spec Try.prog 41 [v] μ fun r μ' => r = .bool (!decide g.Pos) ∧ μ' = μ := by
  have hv0 := hv
  obtain ⟨p, rfl, -, -⟩ := Gl.inv hv
  refine Spec.mk Try.func41 (by kernel_rfl) ?_
  intro r1
  refine call_plain (hasKind_spec hv0) fun v1 μ1 hle1 hR => ?_
  obtain ⟨rfl, e⟩ := hR
  obtain rfl := e.symm
  exact ret_plain ⟨rfl, rfl⟩
theorem positive_spec {p : Pg} {v : Value} (hp : RepV μ p.d v) : Spec Try.prog 26 [v] μ fun r μ' => r = .bool (decide (∀ r ∈ p.rels, r.body.Pos)) ∧ μ' = μ := by
  obtain ⟨q, rfl, hrl⟩ := Pg.inv hp
  have hn := maxLen_le hrl.max
  refine Spec.mk Try.func26 (by kernel_rfl) ?_
  intro r1
  refine loop_intro (fun i : Nat => i ≤ p.rels.length ∧ ∀ (j : Nat) x, j < i → p.rels[j]? = some x → x.body.Pos)
    (fun i => ⟨[(6, .val (.slice q.1 p.rels.length q.2)), (7, .val (.int .i64 p.rels.length)), (8, .val (.int .i64 i))], [], 1, μ, Mem.nil⟩) (fun i => p.rels.length - i)
    0 ⟨Nat.zero_le _, fun j x h => by omega⟩ (fun _ => ⟨rfl, rfl⟩) ⟨⟨rfl, rfl, rfl, trivial⟩, trivial, rfl, rfl⟩ ?_
  rintro i ⟨hi, hall⟩
  refine ifd (fun hlt => ?_) (fun hlt => ?_)
  · obtain ⟨x, hx⟩ := at_some (l := p.rels) (i := i) (by omega)
    obtain ⟨ad, q2, hel, hr, hb⟩ := Rl.elemA hrl hx
    have hb : RepV μ x.body.d (.agg (x.body.cs q2).toArray) := hb
    refine elem_intro hel ?_
    intro r2
    refine call_plain (negative_spec hb) fun v1 μ1 hle1 hR => ?_
    obtain ⟨rfl, e⟩ := hR
    obtain rfl := e.symm
    refine if_intro (fun h => ret_plain ⟨isF fun k => ?_, rfl⟩) (fun h => ?_)
    · have := k x (mem_at hx); simp [this] at h
    · have hpos : x.body.Pos := by simpa using h
      refine num64 (by omega) (by omega) ⟨i + 1, ⟨by omega, fun j y hj hy => ?_⟩, by omega, ⟨⟨rfl, rfl, rfl, trivial⟩, trivial, rfl, rfl⟩⟩
      rcases Nat.lt_or_ge j i with h6 | h6
      · exact hall j y h6 hy
      · obtain rfl : j = i := by omega
        rw [hx] at hy; cases hy; exact hpos
  · obtain rfl : i = p.rels.length := by omega
    exact ret_plain ⟨isT fun x hx => by
      obtain ⟨j, hj⟩ := List.mem_iff_getElem?.1 hx
      exact hall j x (List.getElem?_eq_some_iff.1 hj).1 hj, rfl⟩
theorem impl_IsPositive_spec {p : Pg} {v : Value} (hp : RepV μ p.d v) : Spec Try.prog 16 [v] μ fun r _ => r = .bool (decide p.Pos) := by
  obtain ⟨q, rfl, hrl⟩ := Pg.inv hp
  refine Spec.mk Try.func16 (by kernel_rfl) ?_
  intro r1
  refine call_plain (impl_ProgramOk_spec hp) fun v1 μ1 hle1 hR => ?_
  obtain rfl := hR
  refine ifd (fun hok => ?_) (fun hok => ret_plain (isF fun k => hok k.1))
  refine call_plain (positive_spec (hp.mono hle1)) fun v2 μ2 hle2 hR => ?_
  obtain ⟨rfl, e⟩ := hR
  refine ret_plain ?_
  by_cases h : ∀ r ∈ p.rels, r.body.Pos
  · rw [decide_eq_true h, decide_eq_true (show p.Pos from ⟨hok, h⟩)]
  · rw [decide_eq_false h, decide_eq_false fun k : p.Pos => h k.2]
end
end Go.Vx

/- Contracts: what texts on substitutions share: rows out of slices, terms under a substitution, a bound variable replaced. -/
namespace Go.Vx
open Go.Proofs Classical
section
variable {μ : Mem}
theorem Rep.srcAll {es n cap : Nat} {base : Option Addr} {ds : List D} (h : RepV μ (.sl es ds) (.slice base n cap)) : ∃ vs, Rows μ es ds vs ∧ vs.length = n ∧ SrcAt μ base n es vs := by
  obtain ⟨vs, hrows, hvl, hcap, hsrc⟩ := Rep.src h
  have := hsrc 0 n (Nat.zero_le _) (Nat.le_refl _)
  have e1 : (if cap = 0 then base else base.map (·.add (0 * es))) = base := by
    split
    · rfl
    · cases base with
      | none => rfl
      | some a => simp [Addr.add]
  rw [e1, Nat.sub_zero, List.drop_zero, List.take_of_length_le (by omega)] at this
  exact ⟨vs, hrows, hvl, this⟩
end
end Go.Vx

/- Contracts: the clauses of a goal, the reference's side. -/
namespace Go.Vx
open Go.Proofs Classical
/-! ### Plain -/
def prodC (a l : List (List Gl)) : List (List Gl) := a.flatMap fun x => l.map fun y => x ++ y
mutual
noncomputable def Gl.cl : Gl → Option (List (List Gl))
  | .mk k s ts gs => if k = 0 then some [[]] else if k = 1 then some [] else if k = 8 then Gl.clOr gs [] else if k = 7 then Gl.clAnd gs [[]] else some [[.mk k s ts gs]]
noncomputable def Gl.clOr : List Gl → List (List Gl) → Option (List (List Gl))
  | [], acc => some acc
  | g :: r, acc => (g.cl).bind fun l => if (acc ++ l).length ≤ 64 then Gl.clOr r (acc ++ l) else none
noncomputable def Gl.clAnd : List Gl → List (List Gl) → Option (List (List Gl))
  | [], acc => some acc
  | g :: r, acc => (g.cl).bind fun l => if (prodC acc l).length ≤ 64 then Gl.clAnd r (prodC acc l) else none
end
theorem Gl.cl_eq (g : Gl) : g.cl = if g.kind = 0 then some [[]] else if g.kind = 1 then some [] else if g.kind = 8 then Gl.clOr g.goals [] else if g.kind = 7 then Gl.clAnd g.goals [[]] else some [[g]] := by
  cases g; rw [Gl.cl]; rfl
theorem prodC_len (a l : List (List Gl)) : (prodC a l).length = a.length * l.length := by
  unfold prodC
  induction a with
  | nil => simp
  | cons x a ih => rw [List.flatMap_cons, List.length_append, ih, List.length_map, List.length_cons, Nat.succ_mul]; omega
theorem prodC_mem {a l : List (List Gl)} {z : List Gl} (h : z ∈ prodC a l) : ∃ x ∈ a, ∃ y ∈ l, z = x ++ y := by
  obtain ⟨x, hx, h⟩ := List.mem_flatMap.1 h
  obtain ⟨y, hy, rfl⟩ := List.mem_map.1 h
  exact ⟨x, hx, y, hy, rfl⟩
theorem prodC_step {a l : List (List Gl)} {j : Nat} {x : List Gl} (h : a[j]? = some x) : prodC (a.take (j + 1)) l = prodC (a.take j) l ++ l.map fun y => x ++ y := by
  rw [prodC, List.take_add_one, h, Option.toList_some, List.flatMap_append]
  simp [prodC]
/-- A clause as data. -/
def csD (c : List Gl) : D := .sl 4 (c.map Gl.d)
section
variable {μ : Mem}
abbrev Cls (μ : Mem) (L : List (List Gl)) (v : Value) : Prop := RepV μ (.sl 1 (L.map csD)) v
theorem csD_inv {c : List Gl} {v : Value} (h : RepV μ (csD c) v) : ∃ p : Option Addr × Nat, v = .slice p.1 c.length p.2 := by
  obtain ⟨b, k, rfl, _⟩ := Rep.sl (xs := c.map Gl.d) h
  exact ⟨(b, k), by rw [List.length_map]⟩
theorem cls_elem {L : List (List Gl)} {base : Option Addr} {n : Nat} (h : Sl μ 1 base n (L.map csD)) {i : Nat} {c : List Gl} (hc : L[i]? = some c) :
    ∃ ad, ∃ p : Option Addr × Nat, ElemAt μ base n 1 i ad [.slice p.1 c.length p.2] ∧ RepV μ (csD c) (.slice p.1 c.length p.2) := by
  obtain ⟨ad, cs, h1, h2⟩ := h.get i (csD c) (by simp [hc])
  have h3 : Rep μ (.sl 4 (c.map Gl.d)) cs := h2
  have hl := Rep.len _ _ h3
  match cs, hl with
  | [v], _ =>
    obtain ⟨p, rfl⟩ := csD_inv (c := c) h3
    exact ⟨ad, p, h1, h3⟩
theorem Cls.sl {L : List (List Gl)} {b : Option Addr} {n c : Nat} (h : Cls μ L (.slice b n c)) : Sl μ 1 b L.length (L.map csD) ∧ n = L.length := by
  obtain ⟨b', c', e1, hs⟩ := Rep.sl h
  obtain ⟨rfl, e2, _⟩ := Value.slice.inj e1
  rw [List.length_map] at hs e2
  exact ⟨hs, e2⟩
theorem Cls.inv {L : List (List Gl)} {v : Value} (h : Cls μ L v) : ∃ p : Option Addr × Nat, v = .slice p.1 L.length p.2 := by
  obtain ⟨b, k, rfl, _⟩ := Rep.sl h
  exact ⟨(b, k), by rw [List.length_map]⟩
theorem csD_src {c : List Gl} {p : Option Addr × Nat} (h : RepV μ (csD c) (.slice p.1 c.length p.2)) : ∃ vs, Rows μ 4 (c.map Gl.d) vs ∧ vs.length = c.length ∧ SrcAt μ p.1 c.length 4 vs := Rep.srcAll h
/-- What the reference answers: the clauses, or too many of something. -/
structure ClsOk (μ : Mem) (g : Gl) (v : Value) (L : List (List Gl)) : Prop where
  rep : Cls μ L v
  cl : g.cl = if L.length ≤ 64 then some L else none
  len : ∀ c ∈ L, c.length ≤ g.cnt
  max : L.length ≤ 4096
set_option maxHeartbeats 8000000 in
theorem l16Clauses_spec : ∀ (g : Gl) {μ : Mem} {v : Value}, RepV μ g.d v → g.Sh → g.cnt ≤ 80 → Spec Try.prog 22 [v] μ fun v μ' => ∃ L, ClsOk μ' g v L :=
  Gl.ind fun g ih μ v hv hS hcnt => by
    have hv0 := hv
    obtain ⟨p, rfl, hts, hgs⟩ := Gl.inv hv
    have hg8 := hS.top.gl
    have hce := Gl.cnt_eq1 g
    refine Spec.mk Try.func22 (by kernel_rfl) ?_
    intro r1 r15
    refine ifd (fun h0 => ?_) (fun h0 => ?_)
    · intro r20 μ1 hle1 hno1 hat1 r21
      refine ret_frz [3] fun μ2 hle2 hno2 hat2 => .inl ⟨[[]], ?_, ?_, ?_, ?_⟩
      · exact Rows.sl hat2 (Rows.one (d := csD []) ((Rows.sl (μ := μ1) (ds := []) hat1 .nil (Nat.zero_le _)).mono hle2) rfl) (show 1 ≤ maxLen by decide)
      · rw [Gl.cl_eq, if_pos h0]; rfl
      · simp
      · simp
    refine ifd (fun h1 => ?_) (fun h1 => ?_)
    · refine ret_frz [1] fun μ2 hle2 hno2 hat2 => .inl ⟨[], ?_, ?_, ?_, ?_⟩
      · exact Rows.sl hat2 .nil (Nat.zero_le _)
      · rw [Gl.cl_eq, if_neg h0, if_pos h1]; rfl
      · simp
      · simp
    refine ifd (fun h8 => ?_) (fun h8 => ?_)
    · have hcl : g.cl = Gl.clOr g.goals [] := by rw [Gl.cl_eq, if_neg h0, if_neg h1, if_pos h8]
      refine loop_intro (fun q : Nat × List (List Gl) × Option Nat × Nat × List Value × Mem => q.1 ≤ g.goals.length ∧ μ.Le q.2.2.2.2.2 ∧ Rows q.2.2.2.2.2 1 (q.2.1.map csD) q.2.2.2.2.1 ∧ g.cl = (if q.2.1.length ≤ 64 then Gl.clOr (g.goals.drop q.1) q.2.1 else none) ∧ (∀ c ∈ q.2.1, c.length ≤ Gl.cnts (g.goals.take q.1)) ∧ q.2.1.length ≤ 64 * q.1)
        (fun (i, acc, b, c, ys, μ') => ⟨[(3, .row 1 b ys.length c), (28, .val (.slice p.2.1 g.goals.length p.2.2)), (29, .val (.int .i64 g.goals.length)), (30, .val (.int .i64 i))], [(1, some (.row b c 39 1 ys))], 2, μ', Mem.nil⟩) (fun q => g.goals.length - q.1)
        (0, [], some r15, 0, [], μ) ⟨Nat.zero_le _, Mem.Le.refl _, .nil, by rw [hcl]; rfl, by simp, by simp⟩ (fun (_, _, _, _, _, _) => ⟨rfl, rfl⟩) ⟨⟨rfl, rfl, rfl, rfl, trivial⟩, ⟨rfl, trivial⟩, rfl, rfl⟩ ?_
      rintro ⟨i, acc, b, c, ys, μ'⟩ ⟨hi, hle, hrows, hJ, hlen, hmax⟩
      dsimp only at hi hle hrows hJ hlen hmax
      have hyl := hrows.len
      rw [List.length_map] at hyl
      refine ifd (fun hlt => ?_) (fun hlt => ?_)
      · obtain ⟨x, hx⟩ := at_some (l := g.goals) (i := i) (by omega)
        obtain ⟨ad, q, hel, hr⟩ := Gl.elem (hgs.mono hle) hx
        have hxc := Gl.cnts_take hx
        have hxl := Gl.cnts_le g.goals (i + 1)
        refine elem_intro hel ?_
        intro r5
        refine call_plain (ih x (mem_at hx) hr (hS.sub x (mem_at hx)) (by omega)) fun v1 μ1 hle1 hR => ?_
        obtain ⟨L, hL⟩ := hR
        obtain ⟨pv, rfl⟩ := hL.rep.inv
        obtain ⟨vs, hvr, hvl, hsrc⟩ := Rep.srcAll hL.rep
        have hLm := hL.max
        rw [drop_at hx, Gl.clOr, hL.cl] at hJ
        refine src_intro vs hsrc ?_
        refine grow_intro ?_ ?_ fun b9 c9 _ => ?_
        · show (ys.length + vs.length) * 24 ≤ _; omega
        · exact Nat.le_trans (m := 100000000) (show ys.length + vs.length ≤ _ by omega) (by decide)
        refine ifd (fun h64 => ?_) (fun h64 => ?_)
        · refine ret_plain ⟨L, hL.rep, ?_, fun c hc => Nat.le_trans (hL.len c hc) (by omega), hLm⟩
          rw [if_neg (show ¬ L.length ≤ 64 by omega)] at hJ ⊢
          rw [hJ]
          split <;> rfl
        · rw [if_pos (show L.length ≤ 64 by omega), Option.bind_some] at hJ
          refine num64 (by omega) (by omega) ⟨(i + 1, acc ++ L, b9, c9, _, μ1), ⟨by dsimp only; omega, hle.trans hle1, ?_, ?_, ?_, ?_⟩, by dsimp only; omega, ⟨⟨rfl, rfl, rfl, rfl, trivial⟩, ⟨rfl, trivial⟩, rfl, rfl⟩⟩
          · dsimp only
            rw [List.map_append]
            exact (hrows.mono hle1).append hvr
          · dsimp only
            rw [hJ]
            by_cases ha : acc.length ≤ 64
            · rw [if_pos ha]
            · rw [if_neg ha, if_neg (by rw [List.length_append]; omega)]
          · dsimp only
            intro c hc
            rcases List.mem_append.1 hc with hc | hc
            · have := hlen c hc; omega
            · have := hL.len c hc; omega
          · dsimp only
            rw [List.length_append]; omega
      · obtain rfl : i = g.goals.length := by omega
        rw [List.drop_length, Gl.clOr] at hJ
        rw [List.take_length] at hlen
        refine ret_frz [1] fun μ2 hle2 hno2 hat2 => .inl ⟨acc, ?_, hJ, fun c hc => by have := hlen c hc; omega, by omega⟩
        exact Rows.sl hat2 (hrows.mono hle2) (Nat.le_trans (m := 100000000) (by omega) (by decide))
    refine ifd (fun h7 => ?_) (fun h7 => ?_)
    rotate_left
    · intro r96 μ1 hle1 hno1 hat1 r97
      refine grow_intro ?_ ?_ fun b9 c9 _ => ?_
      · show (0 + 1) * 24 ≤ _; decide
      · show 0 + 1 ≤ maxLen; decide
      refine ret_frz [1] fun μ2 hle2 hno2 hat2 => .inl ⟨[[g]], ?_, ?_, ?_, ?_⟩
      · refine Rows.sl hat2 (Rows.one (d := csD [g]) ((Rows.sl (μ := μ1) (ds := [g.d]) hat1 (Rows.one (hv0.mono hle1) (Gl.d_n g)) (show 1 ≤ maxLen by decide)).mono hle2) rfl) (show 1 ≤ maxLen by decide)
      · rw [Gl.cl_eq, if_neg h0, if_neg h1, if_neg h8, if_neg h7]; rfl
      · intro c hc
        rw [List.mem_singleton.1 hc]
        have := g.cnt_pos
        simpa using this
      · simp
    have hcl : g.cl = Gl.clAnd g.goals [[]] := by rw [Gl.cl_eq, if_neg h0, if_neg h1, if_neg h8, if_pos h7]
    intro r48 μ1 hle1 hno1 hat1 r49
    refine grow_intro ?_ ?_ fun b9 c9 _ => ?_
    · show (0 + 1) * 24 ≤ _; decide
    · show 0 + 1 ≤ maxLen; decide
    refine loop_frz (fun q : Nat × List (List Gl) × Option Addr × Nat × Mem => q.1 ≤ g.goals.length ∧ μ.Le q.2.2.2.2 ∧ Cls q.2.2.2.2 q.2.1 (.slice q.2.2.1 q.2.1.length q.2.2.2.1) ∧ g.cl = Gl.clAnd (g.goals.drop q.1) q.2.1 ∧ (∀ c ∈ q.2.1, c.length ≤ Gl.cnts (g.goals.take q.1)) ∧ q.2.1.length ≤ 64)
      (fun (i, acc, b, c, μ') => ⟨[(3, .val (.slice b acc.length c)), (52, .val (.slice p.2.1 g.goals.length p.2.2)), (53, .val (.int .i64 g.goals.length)), (54, .val (.int .i64 i))], [], 0, μ', Mem.nil⟩) (fun q => g.goals.length - q.1) [1]
      (fun (_, _, _, _, _) => ⟨rfl, rfl⟩) (fun μ2 hle2 hno2 hat2 => ⟨(0, [[]], b9.map (fun r => ⟨r, 0, none⟩), c9, μ2), ⟨Nat.zero_le _, hle1.trans hle2, Rows.sl hat2 (Rows.one (d := csD []) ((Rows.sl (μ := μ1) (ds := []) hat1 .nil (Nat.zero_le _)).mono hle2) rfl) (show 1 ≤ maxLen by decide), hcl, by simp, by simp⟩, ⟨rfl, rfl, rfl, rfl, trivial⟩, trivial, rfl, rfl⟩) ?_
    rintro ⟨i, acc, b, c, μ'⟩ ⟨hi, hle, hacc, hJ, hlen, hmax⟩
    dsimp only at hi hle hacc hJ hlen hmax
    refine ifd (fun hlt => ?_) (fun hlt => ?_)
    rotate_left
    · obtain rfl : i = g.goals.length := by omega
      rw [List.drop_length, Gl.clAnd] at hJ
      rw [List.take_length] at hlen
      exact ret_plain ⟨acc, hacc, by rw [hJ, if_pos hmax], fun c hc => by have := hlen c hc; omega, by omega⟩
    obtain ⟨x, hx⟩ := at_some (l := g.goals) (i := i) (by omega)
    obtain ⟨ad, q, hel, hr⟩ := Gl.elem (hgs.mono hle) hx
    have hxc := Gl.cnts_take hx
    have hxl := Gl.cnts_le g.goals (i + 1)
    refine elem_intro hel ?_
    intro r8
    refine call_plain (ih x (mem_at hx) hr (hS.sub x (mem_at hx)) (by omega)) fun v3 μ3 hle3 hR => ?_
    obtain ⟨L, hL⟩ := hR
    obtain ⟨pv, rfl⟩ := hL.rep.inv
    have hLm := hL.max
    rw [drop_at hx, Gl.clAnd, hL.cl] at hJ
    refine ifd (fun h64 => ?_) (fun h64 => ?_)
    · refine ret_plain ⟨L, hL.rep, ?_, fun c hc => Nat.le_trans (hL.len c hc) (by omega), hLm⟩
      rw [if_neg (show ¬ L.length ≤ 64 by omega)] at hJ ⊢
      exact hJ
    rw [if_pos (show L.length ≤ 64 by omega), Option.bind_some] at hJ
    intro r64
    have hasl := (Cls.sl (RepV.mono hle3 hacc)).1
    refine loop_intro (fun q : Nat × Option Nat × Nat × List Value × Mem => q.1 ≤ acc.length ∧ μ3.Le q.2.2.2.2 ∧ Rows q.2.2.2.2 1 ((prodC (acc.take q.1) L).map csD) q.2.2.2.1)
      (fun (j, b1, c1, ys, μ4) => ⟨[(9, .val (.slice pv.1 L.length pv.2)), (10, .row 1 b1 ys.length c1), (52, .val (.slice p.2.1 g.goals.length p.2.2)), (53, .val (.int .i64 g.goals.length)), (54, .val (.int .i64 i)), (65, .val (.slice b acc.length c)), (66, .val (.int .i64 acc.length)), (67, .val (.int .i64 j))], [(1, some (.row b1 c1 39 1 ys))], 2, μ4, Mem.nil⟩) (fun q => acc.length - q.1)
      (0, some r64, 0, [], μ3) ⟨Nat.zero_le _, Mem.Le.refl _, .nil⟩ (fun (_, _, _, _, _) => ⟨rfl, rfl⟩) ⟨⟨rfl, rfl, rfl, rfl, rfl, rfl, rfl, rfl, trivial⟩, ⟨rfl, trivial⟩, rfl, rfl⟩ ?_
    rintro ⟨j, b1, c1, ys, μ4⟩ ⟨hj, hle4, hrows⟩
    dsimp only at hj hle4 hrows
    have hyl := hrows.len
    rw [List.length_map, prodC_len, List.length_take] at hyl
    have hmul : min j acc.length * L.length ≤ 64 * 64 := Nat.mul_le_mul (by omega) (by omega)
    refine ifd (fun hlt2 => ?_) (fun hlt2 => ?_)
    · obtain ⟨xa, hxa⟩ := at_some (l := acc) (i := j) (by omega)
      obtain ⟨ad2, pa, hel2, hra⟩ := cls_elem (hasl.mono hle4) hxa
      have hxal := hlen xa (mem_at hxa)
      have hmul2 : j * L.length ≤ 64 * 64 := Nat.mul_le_mul (by omega) (by omega)
      rw [Nat.min_eq_left (by omega)] at hyl
      refine elem_intro hel2 ?_
      refine loop_intro (fun q : Nat × Option Nat × Nat × List Value × Mem => q.1 ≤ L.length ∧ μ4.Le q.2.2.2.2 ∧ Rows q.2.2.2.2 1 ((prodC (acc.take j) L ++ (L.take q.1).map fun y => xa ++ y).map csD) q.2.2.2.1)
        (fun (k, b1, c1, ys, μ5) => ⟨[(9, .val (.slice pv.1 L.length pv.2)), (10, .row 1 b1 ys.length c1), (12, .val (.slice pa.1 xa.length pa.2)), (52, .val (.slice p.2.1 g.goals.length p.2.2)), (53, .val (.int .i64 g.goals.length)), (54, .val (.int .i64 i)), (65, .val (.slice b acc.length c)), (66, .val (.int .i64 acc.length)), (67, .val (.int .i64 j)), (71, .val (.slice pv.1 L.length pv.2)), (72, .val (.int .i64 L.length)), (73, .val (.int .i64 k))], [(1, some (.row b1 c1 39 1 ys))], 2, μ5, Mem.nil⟩) (fun q => L.length - q.1)
        (0, b1, c1, ys, μ4) ⟨Nat.zero_le _, Mem.Le.refl _, by simpa using hrows⟩ (fun (_, _, _, _, _) => ⟨rfl, rfl⟩) ⟨⟨rfl, rfl, rfl, rfl, rfl, rfl, rfl, rfl, rfl, rfl, rfl, rfl, trivial⟩, ⟨rfl, trivial⟩, rfl, rfl⟩ ?_
      clear hrows
      rintro ⟨k, b2, c2, zs, μ5⟩ ⟨hk, hle5, hrows2⟩
      dsimp only at hk hle5 hrows2
      have hzl := hrows2.len
      rw [List.length_map, List.length_append, prodC_len, List.length_map, List.length_take, List.length_take, Nat.min_eq_left (show j ≤ acc.length by omega), Nat.min_eq_left hk] at hzl
      refine ifd (fun hlt3 => ?_) (fun hlt3 => ?_)
      · obtain ⟨y, hy⟩ := at_some (l := L) (i := k) (by omega)
        obtain ⟨ad3, py, hel3, hry⟩ := cls_elem (((Cls.sl hL.rep).1.mono hle4).mono hle5) hy
        have hyl2 := hL.len y (mem_at hy)
        obtain ⟨vx, hvx, hvxl, hsx⟩ := csD_src (hra.mono hle5)
        obtain ⟨vy, hvy, hvyl, hsy⟩ := csD_src hry
        refine elem_intro hel3 ?_
        intro r78
        refine src_intro vx hsx ?_
        refine grow_intro ?_ ?_ fun b6 c6 _ => ?_
        · show (0 + vx.length) * 72 ≤ _; omega
        · exact Nat.le_trans (m := 100000000) (show 0 + vx.length ≤ _ by omega) (by decide)
        refine src_intro vy hsy ?_
        refine grow_intro ?_ ?_ fun b7 c7 _ => ?_
        · show ((([] : List Value) ++ vx).length + vy.length) * 72 ≤ _; simp; omega
        · exact Nat.le_trans (m := 100000000) (show (([] : List Value) ++ vx).length + vy.length ≤ _ by simp; omega) (by decide)
        intro μ6 hle6 hno6 hat6 r83
        refine grow_intro ?_ ?_ fun b8 c8 _ => ?_
        · show (zs.length + 1) * 24 ≤ _; omega
        · exact Nat.le_trans (m := 100000000) (show zs.length + 1 ≤ _ by omega) (by decide)
        have hrow : RepV μ6 (csD (xa ++ y)) (.slice (b7.map fun r => ⟨r, 0, none⟩) (([] : List Value) ++ vx ++ vy).length c7) := by
          have := Rows.sl hat6 ((hvx.append hvy).mono hle6) (Nat.le_trans (m := 100000000) (by simp; omega) (by decide))
          rw [← List.map_append] at this
          exact this
        refine num64 (by omega) (by omega) ⟨(k + 1, b8, c8, _, μ6), ⟨by dsimp only; omega, hle5.trans hle6, ?_⟩, by dsimp only; omega, ⟨⟨rfl, rfl, rfl, rfl, rfl, rfl, rfl, rfl, rfl, rfl, rfl, rfl, trivial⟩, ⟨rfl, trivial⟩, rfl, rfl⟩⟩
        dsimp only
        rw [List.take_add_one, hy, Option.toList_some, List.map_append (f := fun y => xa ++ y), ← List.append_assoc, List.map_append (f := csD)]
        exact (hrows2.mono hle6).append (Rows.one hrow rfl)
      · obtain rfl : k = L.length := by omega
        rw [List.take_length, ← prodC_step hxa] at hrows2
        exact num64 (by omega) (by omega) ⟨(j + 1, b2, c2, zs, μ5), ⟨by dsimp only; omega, hle4.trans hle5, hrows2⟩, by dsimp only; omega, ⟨⟨rfl, rfl, rfl, rfl, rfl, rfl, rfl, rfl, trivial⟩, ⟨rfl, trivial⟩, rfl, rfl⟩⟩
    · obtain rfl : j = acc.length := by omega
      rw [List.take_length] at hrows
      rw [Nat.min_self] at hyl hmul
      have hpl := prodC_len acc L
      have hzlen : ∀ c ∈ prodC acc L, c.length ≤ Gl.cnts (g.goals.take (i + 1)) := fun c hc => by
        obtain ⟨u, hu, w, hw, rfl⟩ := prodC_mem hc
        have h1 := hlen u hu
        have h2 := hL.len w hw
        rw [List.length_append]; omega
      refine ifd (fun hb => ?_) (fun hb => ?_)
      · refine ret_frz [1] fun μ5 hle5 hno5 hat5 => .inl ⟨prodC acc L, ?_, ?_, fun c hc => by have := hzlen c hc; omega, by omega⟩
        · have := Rows.sl hat5 (hrows.mono hle5) (Nat.le_trans (m := 100000000) (by omega) (by decide))
          exact this
        · rw [if_neg (by omega)] at hJ ⊢
          exact hJ
      · rw [if_pos (by omega)] at hJ
        refine num64 (by omega) (by omega) ⟨[1], fun μ5 hle5 hno5 hat5 => ⟨(i + 1, prodC acc L, b1.map (fun r => ⟨r, 0, none⟩), c1, μ5), ⟨by dsimp only; omega, ((hle.trans hle3).trans hle4).trans hle5, ?_, hJ, hzlen, by dsimp only; omega⟩, by dsimp only; omega, ⟨⟨?_, rfl, rfl, rfl, trivial⟩, trivial, rfl, rfl⟩⟩⟩
        · have := Rows.sl hat5 (hrows.mono hle5) (Nat.le_trans (m := 100000000) (by omega) (by decide))
          rw [← hyl, ← hpl] at this
          exact this
        · show some (SV.val (.slice _ _ _)) = some (SV.val (.slice _ _ _))
          rw [hpl, hyl]
end
end Go.Vx

/- Contracts: the clauses of a goal, the program's side. -/
namespace Go.Vx
open Go.Proofs Classical
theorem prodC_size {a l : List (List Gl)} {m n : Nat} (h1 : ∀ c ∈ a, c.length ≤ m) (h2 : ∀ c ∈ l, c.length ≤ n) : ∀ c ∈ prodC a l, c.length ≤ m + n := fun c hc => by
  obtain ⟨u, hu, w, hw, rfl⟩ := prodC_mem hc
  have := h1 u hu
  have := h2 w hw
  rw [List.length_append]; omega
mutual
theorem Gl.cl_bnd : ∀ (g : Gl) {L : List (List Gl)}, g.cl = some L → (∀ c ∈ L, c.length ≤ g.cnt) ∧ L.length ≤ 64
  | .mk k s ts gs, L, h => by
    rw [Gl.cl] at h
    rw [Gl.cnt]
    split at h
    · cases h; simp
    split at h
    · cases h; simp
    split at h
    · have := Gl.clOr_bnd gs (acc := []) (n := 0) (by simp) (by simp) h
      exact ⟨fun c hc => by have := this.1 c hc; omega, this.2⟩
    split at h
    · have := Gl.clAnd_bnd gs (acc := [[]]) (n := 0) (by simp) (by simp) h
      exact ⟨fun c hc => by have := this.1 c hc; omega, this.2⟩
    · cases h
      refine ⟨fun c hc => ?_, by simp⟩
      rw [List.mem_singleton.1 hc, List.length_singleton]; omega
theorem Gl.clOr_bnd : ∀ (gs : List Gl) {acc L : List (List Gl)} {n : Nat}, (∀ c ∈ acc, c.length ≤ n) → acc.length ≤ 64 → Gl.clOr gs acc = some L → (∀ c ∈ L, c.length ≤ n + Gl.cnts gs) ∧ L.length ≤ 64
  | [], acc, L, n, h1, h2, h => by
    rw [Gl.clOr] at h; cases h
    exact ⟨fun c hc => Nat.le_trans (h1 c hc) (Nat.le_add_right _ _), h2⟩
  | g :: gs, acc, L, n, h1, h2, h => by
    rw [Gl.clOr] at h
    cases e : g.cl with
    | none => rw [e] at h; cases h
    | some l =>
      rw [e, Option.bind_some] at h
      have hb := Gl.cl_bnd g e
      split at h
      · rename_i h64
        have := Gl.clOr_bnd gs (acc := acc ++ l) (n := n + g.cnt) (fun c hc => by
          rcases List.mem_append.1 hc with hc | hc
          · have := h1 c hc; omega
          · have := hb.1 c hc; omega) h64 h
        rw [Gl.cnts]
        exact ⟨fun c hc => by have := this.1 c hc; omega, this.2⟩
      · cases h
theorem Gl.clAnd_bnd : ∀ (gs : List Gl) {acc L : List (List Gl)} {n : Nat}, (∀ c ∈ acc, c.length ≤ n) → acc.length ≤ 64 → Gl.clAnd gs acc = some L → (∀ c ∈ L, c.length ≤ n + Gl.cnts gs) ∧ L.length ≤ 64
  | [], acc, L, n, h1, h2, h => by
    rw [Gl.clAnd] at h; cases h
    exact ⟨fun c hc => Nat.le_trans (h1 c hc) (Nat.le_add_right _ _), h2⟩
  | g :: gs, acc, L, n, h1, h2, h => by
    rw [Gl.clAnd] at h
    cases e : g.cl with
    | none => rw [e] at h; cases h
    | some l =>
      rw [e, Option.bind_some] at h
      have hb := Gl.cl_bnd g e
      split at h
      · rename_i h64
        have := Gl.clAnd_bnd gs (acc := prodC acc l) (n := n + g.cnt) (prodC_size h1 hb.1) h64 h
        rw [Gl.cnts]
        exact ⟨fun c hc => by have := this.1 c hc; omega, this.2⟩
      · cases h
end
/-- The clauses and whether there are not too many. -/
def optC (P : List (List Gl) → Value → Prop) (o : Option (List (List Gl))) (v : Value) : Prop := match o with
  | some L => ∃ tv, v = .tuple #[tv, .bool true] ∧ P L tv
  | none => v = .tuple #[.slice none 0 0, .bool false]
section
variable {μ : Mem}
set_option maxHeartbeats 8000000 in
theorem clausesOf_spec : ∀ (g : Gl) {μ : Mem} {v : Value}, RepV μ g.d v → g.Sh → g.cnt ≤ 80 → Spec Try.prog 27 [v] μ fun v μ' => optC (Cls μ') g.cl v :=
  Gl.ind fun g ih μ v hv hS hcnt => by
    have hv0 := hv
    obtain ⟨p, rfl, hts, hgs⟩ := Gl.inv hv
    have hg8 := hS.top.gl
    have hce := Gl.cnt_eq1 g
    refine Spec.mk Try.func27 (by kernel_rfl) ?_
    intro r1 r19
    refine ifd (fun h0 => ?_) (fun h0 => ?_)
    · intro r27 μ1 hle1 hno1 hat1 r28
      refine ret_frz [3] fun μ2 hle2 hno2 hat2 => .inl ?_
      rw [Gl.cl_eq, if_pos h0]
      exact ⟨_, rfl, Rows.sl hat2 (Rows.one (d := csD []) ((Rows.sl (μ := μ1) (ds := []) hat1 .nil (Nat.zero_le _)).mono hle2) rfl) (show 1 ≤ maxLen by decide)⟩
    refine ifd (fun h1 => ?_) (fun h1 => ?_)
    · refine ret_frz [1] fun μ2 hle2 hno2 hat2 => .inl ?_
      rw [Gl.cl_eq, if_neg h0, if_pos h1]
      exact ⟨_, rfl, Rows.sl hat2 .nil (Nat.zero_le _)⟩
    refine ifd (fun h8 => ?_) (fun h8 => ?_)
    · have hcl : g.cl = Gl.clOr g.goals [] := by rw [Gl.cl_eq, if_neg h0, if_neg h1, if_pos h8]
      refine loop_intro (fun q : Nat × List (List Gl) × Option Nat × Nat × List Value × Mem => q.1 ≤ g.goals.length ∧ μ.Le q.2.2.2.2.2 ∧ Rows q.2.2.2.2.2 1 (q.2.1.map csD) q.2.2.2.2.1 ∧ g.cl = Gl.clOr (g.goals.drop q.1) q.2.1 ∧ q.2.1.length ≤ 64)
        (fun (i, acc, b, c, ys, μ') => ⟨[(4, .row 1 b ys.length c), (34, .val (.slice p.2.1 g.goals.length p.2.2)), (35, .val (.int .i64 g.goals.length)), (36, .val (.int .i64 i))], [(1, some (.row b c 39 1 ys))], 2, μ', Mem.nil⟩) (fun q => g.goals.length - q.1)
        (0, [], some r19, 0, [], μ) ⟨Nat.zero_le _, Mem.Le.refl _, .nil, hcl, by simp⟩ (fun (_, _, _, _, _, _) => ⟨rfl, rfl⟩) ⟨⟨rfl, rfl, rfl, rfl, trivial⟩, ⟨rfl, trivial⟩, rfl, rfl⟩ ?_
      rintro ⟨i, acc, b, c, ys, μ'⟩ ⟨hi, hle, hrows, hJ, hmax⟩
      dsimp only at hi hle hrows hJ hmax
      have hyl := hrows.len
      rw [List.length_map] at hyl
      refine ifd (fun hlt => ?_) (fun hlt => ?_)
      · obtain ⟨x, hx⟩ := at_some (l := g.goals) (i := i) (by omega)
        obtain ⟨ad, q, hel, hr⟩ := Gl.elem (hgs.mono hle) hx
        have hxc := Gl.cnts_take hx
        have hxl := Gl.cnts_le g.goals (i + 1)
        refine elem_intro hel ?_
        intro r5
        refine call_plain (ih x (mem_at hx) hr (hS.sub x (mem_at hx)) (by omega)) fun v1 μ1 hle1 hR => ?_
        rw [drop_at hx, Gl.clOr] at hJ
        cases e : x.cl with
        | none =>
          rw [e] at hR hJ
          obtain rfl := hR
          refine if_intro (fun _ => ?_) (fun h => nomatch h)
          exact ret_plain (by rw [hJ]; rfl)
        | some L =>
          rw [e] at hR
          rw [e, Option.bind_some] at hJ
          obtain ⟨tv, rfl, hLr⟩ := hR
          obtain ⟨pv, rfl⟩ := hLr.inv
          have hLb := Gl.cl_bnd x e
          obtain ⟨vs, hvr, hvl, hsrc⟩ := Rep.srcAll hLr
          refine if_intro (fun h => nomatch h) (fun _ => ?_)
          refine src_intro vs hsrc ?_
          refine grow_intro ?_ ?_ fun b9 c9 _ => ?_
          · show (ys.length + vs.length) * 24 ≤ _; omega
          · exact Nat.le_trans (m := 100000000) (show ys.length + vs.length ≤ _ by omega) (by decide)
          have hal : (ys ++ vs).length = (acc ++ L).length := by rw [List.length_append, List.length_append]; omega
          refine ifd (fun h64 => ?_) (fun h64 => ?_)
          · rw [if_neg (by omega)] at hJ
            exact ret_plain (by rw [hJ]; rfl)
          · rw [if_pos (by omega)] at hJ
            refine num64 (by omega) (by omega) ⟨(i + 1, acc ++ L, b9, c9, _, μ1), ⟨by dsimp only; omega, hle.trans hle1, ?_, hJ, by dsimp only; omega⟩, by dsimp only; omega, ⟨⟨rfl, rfl, rfl, rfl, trivial⟩, ⟨rfl, trivial⟩, rfl, rfl⟩⟩
            dsimp only
            rw [List.map_append]
            exact (hrows.mono hle1).append hvr
      · obtain rfl : i = g.goals.length := by omega
        rw [List.drop_length, Gl.clOr] at hJ
        refine ret_frz [1] fun μ2 hle2 hno2 hat2 => .inl ?_
        rw [hJ]
        exact ⟨_, rfl, Rows.sl hat2 (hrows.mono hle2) (Nat.le_trans (m := 100000000) (by omega) (by decide))⟩
    refine ifd (fun h7 => ?_) (fun h7 => ?_)
    rotate_left
    · intro r23 μ1 hle1 hno1 hat1 r24
      refine ret_frz [3] fun μ2 hle2 hno2 hat2 => .inl ?_
      rw [Gl.cl_eq, if_neg h0, if_neg h1, if_neg h8, if_neg h7]
      exact ⟨_, rfl, Rows.sl hat2 (Rows.one (d := csD [g]) ((Rows.sl (μ := μ1) (ds := [g.d]) hat1 (Rows.one (hv0.mono hle1) (Gl.d_n g)) (show 1 ≤ maxLen by decide)).mono hle2) rfl) (show 1 ≤ maxLen by decide)⟩
    have hcl : g.cl = Gl.clAnd g.goals [[]] := by rw [Gl.cl_eq, if_neg h0, if_neg h1, if_neg h8, if_pos h7]
    intro r56 μ1 hle1 hno1 hat1 r57
    refine loop_frz (fun q : Nat × List (List Gl) × Option Addr × Nat × Mem => q.1 ≤ g.goals.length ∧ μ.Le q.2.2.2.2 ∧ Cls q.2.2.2.2 q.2.1 (.slice q.2.2.1 q.2.1.length q.2.2.2.1) ∧ g.cl = Gl.clAnd (g.goals.drop q.1) q.2.1 ∧ (∀ c ∈ q.2.1, c.length ≤ Gl.cnts (g.goals.take q.1)) ∧ q.2.1.length ≤ 64)
      (fun (i, acc, b, c, μ') => ⟨[(4, .val (.slice b acc.length c)), (9, .val (.bool false)), (59, .val (.slice p.2.1 g.goals.length p.2.2)), (60, .val (.int .i64 g.goals.length)), (61, .val (.int .i64 i))], [], 0, μ', Mem.nil⟩) (fun q => g.goals.length - q.1) [3]
      (fun (_, _, _, _, _) => ⟨rfl, rfl⟩) (fun μ2 hle2 hno2 hat2 => ⟨(0, [[]], some ⟨r57, 0, none⟩, 1, μ2), ⟨Nat.zero_le _, hle1.trans hle2, Rows.sl hat2 (Rows.one (d := csD []) ((Rows.sl (μ := μ1) (ds := []) hat1 .nil (Nat.zero_le _)).mono hle2) rfl) (show 1 ≤ maxLen by decide), hcl, by simp, by simp⟩, ⟨rfl, rfl, rfl, rfl, rfl, trivial⟩, trivial, rfl, rfl⟩) ?_
    rintro ⟨i, acc, b, c, μ'⟩ ⟨hi, hle, hacc, hJ, hlen, hmax⟩
    dsimp only at hi hle hacc hJ hlen hmax
    refine ifd (fun hlt => ?_) (fun hlt => ?_)
    rotate_left
    · obtain rfl : i = g.goals.length := by omega
      rw [List.drop_length, Gl.clAnd] at hJ
      exact ret_plain (by rw [hJ]; exact ⟨_, rfl, hacc⟩)
    obtain ⟨x, hx⟩ := at_some (l := g.goals) (i := i) (by omega)
    obtain ⟨ad, q, hel, hr⟩ := Gl.elem (hgs.mono hle) hx
    have hxc := Gl.cnts_take hx
    have hxl := Gl.cnts_le g.goals (i + 1)
    refine elem_intro hel ?_
    intro r11
    refine call_plain (ih x (mem_at hx) hr (hS.sub x (mem_at hx)) (by omega)) fun v3 μ3 hle3 hR => ?_
    rw [drop_at hx, Gl.clAnd] at hJ
    obtain ⟨o, e⟩ : ∃ o, x.cl = o := ⟨_, rfl⟩
    rw [e] at hR hJ
    match o, e, hR, hJ with
    | none, e, hR, hJ =>
    obtain rfl := hR
    refine if_intro (fun _ => ?_) (fun h => nomatch h)
    exact ret_plain (by rw [hJ]; rfl)
    | some L, e, hR, hJ =>
    obtain ⟨tv, rfl, hLr⟩ := hR
    obtain ⟨pv, rfl⟩ := hLr.inv
    have hLb := Gl.cl_bnd x e
    have hLl := hLb.1
    have hLm := hLb.2
    rw [Option.bind_some] at hJ
    refine if_intro (fun h => nomatch h) (fun _ => ?_)
    intro r64
    have hasl := (Cls.sl (RepV.mono hle3 hacc)).1
    refine loop_intro (fun q : Nat × Option Nat × Nat × List Value × Mem => q.1 ≤ acc.length ∧ μ3.Le q.2.2.2.2 ∧ Rows q.2.2.2.2 1 ((prodC (acc.take q.1) L).map csD) q.2.2.2.1)
      (fun (j, b1, c1, ys, μ4) => ⟨[(9, .val (.bool false)), (12, .val (.slice pv.1 L.length pv.2)), (14, .row 1 b1 ys.length c1), (59, .val (.slice p.2.1 g.goals.length p.2.2)), (60, .val (.int .i64 g.goals.length)), (61, .val (.int .i64 i)), (73, .val (.slice b acc.length c)), (74, .val (.int .i64 acc.length)), (75, .val (.int .i64 j))], [(1, some (.row b1 c1 39 1 ys))], 2, μ4, Mem.nil⟩) (fun q => acc.length - q.1)
      (0, some r64, 0, [], μ3) ⟨Nat.zero_le _, Mem.Le.refl _, .nil⟩ (fun (_, _, _, _, _) => ⟨rfl, rfl⟩) ⟨⟨rfl, rfl, rfl, rfl, rfl, rfl, rfl, rfl, rfl, trivial⟩, ⟨rfl, trivial⟩, rfl, rfl⟩ ?_
    rintro ⟨j, b1, c1, ys, μ4⟩ ⟨hj, hle4, hrows⟩
    dsimp only at hj hle4 hrows
    have hyl := hrows.len
    rw [List.length_map, prodC_len, List.length_take] at hyl
    have hmul : min j acc.length * L.length ≤ 64 * 64 := Nat.mul_le_mul (by omega) (by omega)
    refine ifd (fun hlt2 => ?_) (fun hlt2 => ?_)
    · obtain ⟨xa, hxa⟩ := at_some (l := acc) (i := j) (by omega)
      obtain ⟨ad2, pa, hel2, hra⟩ := cls_elem (hasl.mono hle4) hxa
      have hxal := hlen xa (mem_at hxa)
      have hmul2 : j * L.length ≤ 64 * 64 := Nat.mul_le_mul (by omega) (by omega)
      rw [Nat.min_eq_left (by omega)] at hyl
      refine elem_intro hel2 ?_
      refine loop_intro (fun q : Nat × Option Nat × Nat × List Value × Mem => q.1 ≤ L.length ∧ μ4.Le q.2.2.2.2 ∧ Rows q.2.2.2.2 1 ((prodC (acc.take j) L ++ (L.take q.1).map fun y => xa ++ y).map csD) q.2.2.2.1)
        (fun (k, b1, c1, ys, μ5) => ⟨[(9, .val (.bool false)), (12, .val (.slice pv.1 L.length pv.2)), (14, .row 1 b1 ys.length c1), (16, .val (.slice pa.1 xa.length pa.2)), (59, .val (.slice p.2.1 g.goals.length p.2.2)), (60, .val (.int .i64 g.goals.length)), (61, .val (.int .i64 i)), (73, .val (.slice b acc.length c)), (74, .val (.int .i64 acc.length)), (75, .val (.int .i64 j)), (79, .val (.slice pv.1 L.length pv.2)), (80, .val (.int .i64 L.length)), (81, .val (.int .i64 k))], [(1, some (.row b1 c1 39 1 ys))], 2, μ5, Mem.nil⟩) (fun q => L.length - q.1)
        (0, b1, c1, ys, μ4) ⟨Nat.zero_le _, Mem.Le.refl _, by simpa using hrows⟩ (fun (_, _, _, _, _) => ⟨rfl, rfl⟩) ⟨⟨rfl, rfl, rfl, rfl, rfl, rfl, rfl, rfl, rfl, rfl, rfl, rfl, rfl, trivial⟩, ⟨rfl, trivial⟩, rfl, rfl⟩ ?_
      clear hrows
      rintro ⟨k, b2, c2, zs, μ5⟩ ⟨hk, hle5, hrows2⟩
      dsimp only at hk hle5 hrows2
      have hzl := hrows2.len
      rw [List.length_map, List.length_append, prodC_len, List.length_map, List.length_take, List.length_take, Nat.min_eq_left (show j ≤ acc.length by omega), Nat.min_eq_left hk] at hzl
      refine ifd (fun hlt3 => ?_) (fun hlt3 => ?_)
      · obtain ⟨y, hy⟩ := at_some (l := L) (i := k) (by omega)
        obtain ⟨ad3, py, hel3, hry⟩ := cls_elem (((Cls.sl hLr).1.mono hle4).mono hle5) hy
        have hyl2 := hLl y (mem_at hy)
        obtain ⟨vx, hvx, hvxl, hsx⟩ := csD_src (hra.mono hle5)
        obtain ⟨vy, hvy, hvyl, hsy⟩ := csD_src hry
        refine elem_intro hel3 ?_
        intro r78
        refine src_intro vx hsx ?_
        refine grow_intro ?_ ?_ fun b6 c6 _ => ?_
        · show (0 + vx.length) * 72 ≤ _; omega
        · exact Nat.le_trans (m := 100000000) (show 0 + vx.length ≤ _ by omega) (by decide)
        refine src_intro vy hsy ?_
        refine grow_intro ?_ ?_ fun b7 c7 _ => ?_
        · show ((([] : List Value) ++ vx).length + vy.length) * 72 ≤ _; simp; omega
        · exact Nat.le_trans (m := 100000000) (show (([] : List Value) ++ vx).length + vy.length ≤ _ by simp; omega) (by decide)
        intro μ6 hle6 hno6 hat6 r83
        refine grow_intro ?_ ?_ fun b8 c8 _ => ?_
        · show (zs.length + 1) * 24 ≤ _; omega
        · exact Nat.le_trans (m := 100000000) (show zs.length + 1 ≤ _ by omega) (by decide)
        have hrow : RepV μ6 (csD (xa ++ y)) (.slice (b7.map fun r => ⟨r, 0, none⟩) (([] : List Value) ++ vx ++ vy).length c7) := by
          have := Rows.sl hat6 ((hvx.append hvy).mono hle6) (Nat.le_trans (m := 100000000) (by simp; omega) (by decide))
          rw [← List.map_append] at this
          exact this
        refine num64 (by omega) (by omega) ⟨(k + 1, b8, c8, _, μ6), ⟨by dsimp only; omega, hle5.trans hle6, ?_⟩, by dsimp only; omega, ⟨⟨rfl, rfl, rfl, rfl, rfl, rfl, rfl, rfl, rfl, rfl, rfl, rfl, rfl, trivial⟩, ⟨rfl, trivial⟩, rfl, rfl⟩⟩
        dsimp only
        rw [List.take_add_one, hy, Option.toList_some, List.map_append (f := fun y => xa ++ y), ← List.append_assoc, List.map_append (f := csD)]
        exact (hrows2.mono hle6).append (Rows.one hrow rfl)
      · obtain rfl : k = L.length := by omega
        rw [List.take_length, ← prodC_step hxa] at hrows2
        exact num64 (by omega) (by omega) ⟨(j + 1, b2, c2, zs, μ5), ⟨by dsimp only; omega, hle4.trans hle5, hrows2⟩, by dsimp only; omega, ⟨⟨rfl, rfl, rfl, rfl, rfl, rfl, rfl, rfl, rfl, trivial⟩, ⟨rfl, trivial⟩, rfl, rfl⟩⟩
    · obtain rfl : j = acc.length := by omega
      rw [List.take_length] at hrows
      rw [Nat.min_self] at hyl hmul
      have hpl := prodC_len acc L
      have hzlen : ∀ c ∈ prodC acc L, c.length ≤ Gl.cnts (g.goals.take (i + 1)) := fun c hc => by
        obtain ⟨u, hu, w, hw, rfl⟩ := prodC_mem hc
        have h1 := hlen u hu
        have h2 := hLl w hw
        rw [List.length_append]; omega
      refine if_intro (fun h => nomatch h) (fun _ => ?_)
      refine ifd (fun hb => ?_) (fun hb => ?_)
      · rw [if_neg (by omega)] at hJ
        exact ret_plain (by rw [hJ]; rfl)
      · rw [if_pos (by omega)] at hJ
        refine num64 (by omega) (by omega) ⟨[1], fun μ5 hle5 hno5 hat5 => ⟨(i + 1, prodC acc L, b1.map (fun r => ⟨r, 0, none⟩), c1, μ5), ⟨by dsimp only; omega, ((hle.trans hle3).trans hle4).trans hle5, ?_, hJ, hzlen, by dsimp only; omega⟩, by dsimp only; omega, ⟨⟨?_, ?_, rfl, rfl, rfl, trivial⟩, trivial, rfl, rfl⟩⟩⟩
        · have := Rows.sl hat5 (hrows.mono hle5) (Nat.le_trans (m := 100000000) (by omega) (by decide))
          rw [← hyl, ← hpl] at this
          exact this
        · show some (SV.val (.slice _ _ _)) = some (SV.val (.slice _ _ _))
          rw [hpl, hyl]
        · show some (SV.val (.bool _)) = some (SV.val (.bool _))
          rw [decide_eq_false hb]
theorem clausesFine_spec {p : Pg} {v : Value} (hp : RepV μ p.d v) (hok : p.Ok) : Spec Try.prog 17 [v] μ fun r _ => r = .bool (decide (∀ r ∈ p.rels, r.body.cl ≠ none)) := by
  obtain ⟨q, rfl, hrl⟩ := Pg.inv hp
  have hn := hok.1
  refine Spec.mk Try.func17 (by kernel_rfl) ?_
  intro r1
  refine loop_intro (fun s : Nat × Mem => s.1 ≤ p.rels.length ∧ μ.Le s.2 ∧ ∀ (j : Nat) x, j < s.1 → p.rels[j]? = some x → x.body.cl ≠ none)
    (fun (i, μ') => ⟨[(8, .val (.slice q.1 p.rels.length q.2)), (9, .val (.int .i64 p.rels.length)), (10, .val (.int .i64 i))], [], 1, μ', Mem.nil⟩) (fun s => p.rels.length - s.1)
    (0, μ) ⟨Nat.zero_le _, Mem.Le.refl _, fun j x h => by dsimp only at h; omega⟩ (fun (_, _) => ⟨rfl, rfl⟩) ⟨⟨rfl, rfl, rfl, trivial⟩, trivial, rfl, rfl⟩ ?_
  rintro ⟨i, μ'⟩ ⟨hi, hle, hall⟩
  dsimp only at hi hle hall
  refine ifd (fun hlt => ?_) (fun hlt => ?_)
  · obtain ⟨x, hx⟩ := at_some (l := p.rels) (i := i) (by omega)
    obtain ⟨ad, q2, hel, hr, hb⟩ := Rl.elemA (hrl.mono hle) hx
    have hb : RepV μ' x.body.d (.agg (x.body.cs q2).toArray) := hb
    have hrok := hok.2 i x hx
    refine elem_intro hel ?_
    intro r2
    refine call_plain (clausesOf_spec x.body hb hrok.body (by have := hrok.size; omega)) fun v1 μ1 hle1 hR => ?_
    cases e : x.body.cl with
    | none =>
      rw [e] at hR
      obtain rfl := hR
      refine if_intro (fun _ => ?_) (fun h => nomatch h)
      exact ret_plain (isF fun k => k x (mem_at hx) e)
    | some L =>
      rw [e] at hR
      obtain ⟨tv, rfl, hLr⟩ := hR
      obtain ⟨pv, rfl⟩ := hLr.inv
      refine if_intro (fun h => nomatch h) (fun _ => ?_)
      refine num64 (by omega) (by omega) ⟨(i + 1, μ1), ⟨by dsimp only; omega, hle.trans hle1, fun j y hj hy => ?_⟩, by dsimp only; omega, ⟨⟨rfl, rfl, rfl, trivial⟩, trivial, rfl, rfl⟩⟩
      rcases Nat.lt_or_ge j i with h6 | h6
      · exact hall j y h6 hy
      · obtain rfl : j = i := by omega
        rw [hx] at hy; cases hy; rw [e]; exact fun h => nomatch h
  · obtain rfl : i = p.rels.length := by omega
    exact ret_plain (isT fun x hx => by
      obtain ⟨j, hj⟩ := List.mem_iff_getElem?.1 hx
      exact hall j x (List.getElem?_eq_some_iff.1 hj).1 hj)
end
end Go.Vx

/- Contracts: goals copied, the reference's side. -/
namespace Go.Vx
open Go.Proofs Classical
section
variable {μ : Mem}
theorem l02CopyAll_spec {xs : List T} {base : Option Addr} {cap : Nat} (hsl : Sl μ 4 base xs.length ((xs.map T.tm).map Tm.d)) (hn : xs.length ≤ 10000000) :
    Spec Try.prog 50 [.slice base xs.length cap] μ fun v μ' => RepV μ' (.sl 4 ((xs.map T.tm).map Tm.d)) v := by
  refine Spec.mk Try.func50 (by kernel_rfl) ?_
  intro r6
  refine loop_intro (fun p : Nat × Option Nat × Nat × List Value × Mem => p.1 ≤ xs.length ∧ μ.Le p.2.2.2.2 ∧ Rows p.2.2.2.2 4 (((xs.take p.1).map T.tm).map Tm.d) p.2.2.2.1)
    (fun (i, b, c, ys, μ') => ⟨[(3, .row 0 b ys.length c), (7, .val (.slice base xs.length cap)), (8, .val (.int .i64 xs.length)), (9, .val (.int .i64 i))], [(0, some (.row b c 80 4 ys))], 1, μ', Mem.nil⟩) (fun p => xs.length - p.1)
    (0, some r6, 0, [], μ) ⟨by simp, Mem.Le.refl _, .nil⟩ (fun (_, _, _, _, _) => ⟨rfl, rfl⟩) ⟨⟨rfl, rfl, rfl, rfl, trivial⟩, ⟨rfl, trivial⟩, rfl, rfl⟩ ?_
  rintro ⟨i, b, c, ys, μ'⟩ ⟨hi, hle, hrows⟩
  dsimp only at hi hle hrows
  have hlen := hrows.len
  simp only [List.length_map, List.length_take] at hlen
  refine ifd (fun h => ?_) (fun h => ?_)
  · obtain ⟨x, hx'⟩ := at_some (l := xs) (i := i) (by omega)
    obtain ⟨ad, p, hel, hto⟩ := Tm.elem (i := i) (t := x.tm) (hsl.mono hle) (by simp [hx'])
    refine elem_intro hel ?_
    intro r
    refine call_plain (l02Copy_spec _ hto) fun v4 μ4 hle4 hR4 => ?_
    obtain ⟨q, rfl⟩ := Tm.invV hR4
    intro r5
    refine grow_intro ?_ ?_ fun b' c' _ => ?_
    · show (ys.length + 1) * 56 ≤ _; omega
    · exact Nat.le_trans (m := 100000000) (show ys.length + 1 ≤ _ by omega) (by decide)
    refine num64 (by omega) (by omega) ⟨(i + 1, b', c', _, μ4), ⟨by dsimp only; omega, hle.trans hle4, ?_⟩, by dsimp only; omega, ⟨⟨rfl, rfl, rfl, rfl, trivial⟩, ⟨rfl, trivial⟩, rfl, rfl⟩⟩
    dsimp only
    rw [List.take_add_one, hx', Option.toList_some]
    simp only [List.map_append, List.map_cons, List.map_nil]
    exact (hrows.mono hle4).append (Rows.one hR4 (Tm.d_n _))
  · obtain rfl : i = xs.length := by omega
    rw [List.take_length] at hrows
    refine ret_frz [0] fun μ' hle' hno hrow => .inl ?_
    exact Rows.sl hrow (hrows.mono hle') (Nat.le_trans (m := 100000000) (by omega) (by decide))
theorem RepS.cons1 {d : D} {r : List D} {v : Value} {cs : List Value} (k1 : Rep μ d [v]) (k2 : RepS μ r cs) : RepS μ (d :: r) (v :: cs) := ⟨[v], cs, rfl, k1, k2⟩
theorem l13Copy_spec : ∀ (g : Gl) {μ : Mem} {v : Value}, RepV μ g.d v → g.Sh → Spec Try.prog 34 [v] μ fun v μ' => RepV μ' g.d v :=
  Gl.ind fun g ih μ v hv hS => by
    obtain ⟨p, rfl, hts, hgs⟩ := Gl.inv hv
    obtain ⟨xs, hxs, hok⟩ := lift_ok hS.top.tm
    have hg8 := hS.top.gl
    have hx4 : xs.length ≤ 4 := by
      have T := hS.top
      have e9 := T.ln9; have e2 := T.ln2; have e1 := T.ln1; have e0 := T.ln0; have k0 := T.k0; have k1 := T.k1
      have : g.terms.length = xs.length := by rw [hxs, List.length_map]
      omega
    rw [hxs, List.length_map] at hts ⊢
    refine Spec.mk Try.func34 (by kernel_rfl) ?_
    intro r1 r2
    refine call_plain (l02CopyAll_spec hts (by omega)) fun v1 μ1 hle1 hR1 => ?_
    obtain ⟨b1, c1, rfl, hs1⟩ := Rep.sl hR1
    intro r3
    have hgs1 := hgs.mono hle1
    refine loop_nil (fun p : Nat × Option Nat × Nat × List Value × Mem => p.1 ≤ g.goals.length ∧ μ1.Le p.2.2.2.2 ∧ Rows p.2.2.2.2 4 ((g.goals.take p.1).map Gl.d) p.2.2.2.1)
      (fun (i, b, c, ys, μ') => ⟨[(2, .loc 1 r2 0), (3, .loc 2 r3 0), (15, .val (.slice p.2.1 g.goals.length p.2.2)), (16, .val (.int .i64 g.goals.length)), (17, .val (.int .i64 i))],
        [(1, some (.cells r2 [.val (.int .i64 0), .val (.string ⟨#[]⟩), .val (.slice none 0 0), .val (.slice none 0 0)] 41)), (2, some (.cells r3 [.val (.int .i64 g.kind), .val (.string g.name), .val (.slice b1 ((xs.map T.tm).map Tm.d).length c1), .row 3 b ys.length c] 41)), (3, some (.row b c 41 4 ys))], 4, μ', Mem.nil⟩) (fun p => g.goals.length - p.1)
      (0, none, 0, [], μ1) ⟨by simp, Mem.Le.refl _, .nil⟩ (fun (_, _, _, _, _) => ⟨rfl, rfl⟩) ⟨⟨⟨_, rfl, .inl rfl⟩, ⟨_, rfl, .inl rfl⟩, ⟨_, rfl, .inl rfl⟩, ⟨_, rfl, .inl rfl⟩, ⟨_, rfl, .inl rfl⟩, trivial⟩, ⟨.inl rfl, .inr (.inr ⟨_, _, _, _, rfl, rfl, .inl rfl, .inl rfl, .inl rfl, .inr ⟨3, rfl, rfl, Nat.le_refl _⟩, trivial⟩), .inr (.inl ⟨_, _, rfl, Nat.le_refl _⟩), trivial⟩, rfl, rfl⟩ ?_
    rintro ⟨i, b, c, ys, μ'⟩ ⟨hi, hle, hrows⟩
    dsimp only at hi hle hrows
    have hlen := hrows.len
    simp only [List.length_map, List.length_take] at hlen
    refine ifd (fun h => ?_) (fun h => ?_)
    · obtain ⟨t, ht⟩ := at_some (l := g.goals) (i := i) (by omega)
      obtain ⟨ad, p3, hel, hr⟩ := Gl.elem (hgs1.mono hle) ht
      refine elem_intro hel ?_
      intro r4
      refine call_plain (ih t (mem_at ht) hr (hS.sub t (mem_at ht))) fun v' μ'' hle2 hR => ?_
      obtain ⟨q, rfl⟩ := Gl.invV hR
      intro r5
      refine grow_intro ?_ ?_ fun b' c' _ => ?_
      · show (ys.length + 1) * 72 ≤ _; omega
      · exact Nat.le_trans (m := 100000000) (show ys.length + 1 ≤ _ by omega) (by decide)
      have hsucc : (g.goals.take (i + 1)).map Gl.d = (g.goals.take i).map Gl.d ++ [t.d] := by
        rw [List.take_add_one, ht, Option.toList_some]; simp
      exact num64 (by omega) (by omega) ⟨(i + 1, b', c', _, μ''), ⟨by dsimp only; omega, hle.trans hle2, by rw [hsucc]; exact (hrows.mono hle2).append (Rows.one hR (Gl.d_n _))⟩, by dsimp only; omega, ⟨⟨rfl, rfl, rfl, rfl, rfl, trivial⟩, ⟨rfl, rfl, rfl, trivial⟩, rfl, rfl⟩⟩
    · obtain rfl : i = g.goals.length := by omega
      rw [List.take_length] at hrows
      refine ret_frz [3] fun μ2 hle2 hno hrow => .inl ?_
      rw [Gl.d_eq, hxs]
      exact ⟨_, rfl, RepS.int (RepS.str (RepS.cons1 ((hR1.mono hle).mono hle2) (RepS.last (Rows.sl hrow (hrows.mono hle2) (Nat.le_trans (m := 100000000) (by omega) (by decide))))))⟩
end
end Go.Vx

/- Contracts: rows of a program's relations. -/
namespace Go.Vx
open Go.Proofs Classical
/-- Rows fit a program. -/
structure RowsFit (p : Pg) (rows : List Int) : Prop where
  pos : p.Pos
  cls : ∀ r ∈ p.rels, r.body.cl ≠ none
  len : rows.length = p.rels.length
  rng : ∀ (i : Nat) n r, rows[i]? = some n → p.rels[i]? = some r → 0 ≤ n ∧ n < 2 ^ (2 ^ r.arity.toNat)
section
variable {μ : Mem}
theorem l16Copy_spec {c : List Gl} {base : Option Addr} {cap : Nat} (hsl : Sl μ 4 base c.length (c.map Gl.d)) (hn : c.length ≤ 1000000) (hS : ∀ x ∈ c, x.Sh) :
    Spec Try.prog 23 [.slice base c.length cap] μ fun v μ' => RepV μ' (csD c) v := by
  refine Spec.mk Try.func23 (by kernel_rfl) ?_
  intro r6
  refine loop_intro (fun p : Nat × Option Nat × Nat × List Value × Mem => p.1 ≤ c.length ∧ μ.Le p.2.2.2.2 ∧ Rows p.2.2.2.2 4 ((c.take p.1).map Gl.d) p.2.2.2.1)
    (fun (i, b, k, ys, μ') => ⟨[(3, .row 0 b ys.length k), (7, .val (.slice base c.length cap)), (8, .val (.int .i64 c.length)), (9, .val (.int .i64 i))], [(0, some (.row b k 41 4 ys))], 1, μ', Mem.nil⟩) (fun p => c.length - p.1)
    (0, some r6, 0, [], μ) ⟨by simp, Mem.Le.refl _, .nil⟩ (fun (_, _, _, _, _) => ⟨rfl, rfl⟩) ⟨⟨rfl, rfl, rfl, rfl, trivial⟩, ⟨rfl, trivial⟩, rfl, rfl⟩ ?_
  rintro ⟨i, b, k, ys, μ'⟩ ⟨hi, hle, hrows⟩
  dsimp only at hi hle hrows
  have hlen := hrows.len
  simp only [List.length_map, List.length_take] at hlen
  refine ifd (fun h => ?_) (fun h => ?_)
  · obtain ⟨x, hx⟩ := at_some (l := c) (i := i) (by omega)
    obtain ⟨ad, p, hel, hr⟩ := Gl.elem (hsl.mono hle) hx
    refine elem_intro hel ?_
    intro r5
    refine call_plain (l13Copy_spec x hr (hS x (mem_at hx))) fun v4 μ4 hle4 hR4 => ?_
    obtain ⟨q, rfl⟩ := Gl.invV hR4
    intro r16
    refine grow_intro ?_ ?_ fun b' c' _ => ?_
    · show (ys.length + 1) * 72 ≤ _; omega
    · exact Nat.le_trans (m := 100000000) (show ys.length + 1 ≤ _ by omega) (by decide)
    refine num64 (by omega) (by omega) ⟨(i + 1, b', c', _, μ4), ⟨by dsimp only; omega, hle.trans hle4, ?_⟩, by dsimp only; omega, ⟨⟨rfl, rfl, rfl, rfl, trivial⟩, ⟨rfl, trivial⟩, rfl, rfl⟩⟩
    dsimp only
    rw [List.take_add_one, hx, Option.toList_some, List.map_append]
    exact (hrows.mono hle4).append (Rows.one hR4 (Gl.d_n _))
  · obtain rfl : i = c.length := by omega
    rw [List.take_length] at hrows
    refine ret_frz [0] fun μ' hle' hno hrow => .inl ?_
    exact Rows.sl hrow (hrows.mono hle') (Nat.le_trans (m := 100000000) (by omega) (by decide))
mutual
theorem Gl.cl_Sh : ∀ (g : Gl) {L : List (List Gl)}, g.Sh → g.cl = some L → ∀ c ∈ L, ∀ x ∈ c, x.Sh
  | .mk k s ts gs, L, hS, h => by
    have hsub : ∀ x ∈ gs, x.Sh := hS.sub
    rw [Gl.cl] at h
    split at h
    · cases h; simp
    split at h
    · cases h; simp
    split at h
    · exact Gl.clOr_Sh gs hsub (by simp) h
    split at h
    · exact Gl.clAnd_Sh gs hsub (by simp) h
    · cases h
      intro c hc x hx
      rw [List.mem_singleton.1 hc] at hx
      rw [List.mem_singleton.1 hx]; exact hS
theorem Gl.clOr_Sh : ∀ (gs : List Gl) {acc L : List (List Gl)}, (∀ x ∈ gs, x.Sh) → (∀ c ∈ acc, ∀ x ∈ c, x.Sh) → Gl.clOr gs acc = some L → ∀ c ∈ L, ∀ x ∈ c, x.Sh
  | [], acc, L, _, h1, h => by
    rw [Gl.clOr] at h; cases h; exact h1
  | g :: gs, acc, L, hS, h1, h => by
    rw [Gl.clOr] at h
    cases e : g.cl with
    | none => rw [e] at h; cases h
    | some l =>
      rw [e, Option.bind_some] at h
      have hb := Gl.cl_Sh g (hS g (by simp)) e
      split at h
      · exact Gl.clOr_Sh gs (acc := acc ++ l) (fun x hx => hS x (by simp [hx])) (fun c hc => by
          rcases List.mem_append.1 hc with hc | hc
          · exact h1 c hc
          · exact hb c hc) h
      · cases h
theorem Gl.clAnd_Sh : ∀ (gs : List Gl) {acc L : List (List Gl)}, (∀ x ∈ gs, x.Sh) → (∀ c ∈ acc, ∀ x ∈ c, x.Sh) → Gl.clAnd gs acc = some L → ∀ c ∈ L, ∀ x ∈ c, x.Sh
  | [], acc, L, _, h1, h => by
    rw [Gl.clAnd] at h; cases h; exact h1
  | g :: gs, acc, L, hS, h1, h => by
    rw [Gl.clAnd] at h
    cases e : g.cl with
    | none => rw [e] at h; cases h
    | some l =>
      rw [e, Option.bind_some] at h
      have hb := Gl.cl_Sh g (hS g (by simp)) e
      split at h
      · exact Gl.clAnd_Sh gs (acc := prodC acc l) (fun x hx => hS x (by simp [hx])) (fun c hc => by
          obtain ⟨u, hu, w, hw, rfl⟩ := prodC_mem hc
          intro x hx
          rcases List.mem_append.1 hx with hx | hx
          · exact h1 u hu x hx
          · exact hb w hw x hx) h
      · cases h
end
theorem ClausesOf_spec {g : Gl} {v : Value} (hv : RepV μ g.d v) (hw : g.d.wd) (hok : g.Ok) : Spec Try.prog 13 [v] μ fun v μ' => optC (Cls μ') g.cl v := by
  have hv0 := hv
  obtain ⟨p, rfl, -, -⟩ := Gl.inv hv
  refine Spec.mk Try.func13 (by kernel_rfl) ?_
  intro r1
  refine call_gives (spec_GoalOk_spec g hv0 hw) ?_
  refine ifnd (fun h => absurd hok h) (fun _ => ?_)
  refine call_plain (l16Clauses_spec g hv0 hok.1 hok.2) fun v1 μ1 hle1 hR => ?_
  obtain ⟨L, hL⟩ := hR
  obtain ⟨pv, rfl⟩ := hL.rep.inv
  have hcl := hL.cl
  refine ifd (fun h64 => ?_) (fun h64 => ?_)
  · rw [if_neg (by omega)] at hcl
    exact ret_plain (by rw [hcl]; rfl)
  rw [if_pos (by omega)] at hcl
  rw [hcl]
  have hSh := Gl.cl_Sh g hok.1 hcl
  have hbd := Gl.cl_bnd g hcl
  have h80 := hok.2
  have hsl := (Cls.sl hL.rep).1
  intro r16
  refine loop_intro (fun p : Nat × Option Nat × Nat × List Value × Mem => p.1 ≤ L.length ∧ μ1.Le p.2.2.2.2 ∧ Rows p.2.2.2.2 1 ((L.take p.1).map csD) p.2.2.2.1)
    (fun (i, b, k, ys, μ') => ⟨[(5, .row 1 b ys.length k), (17, .val (.slice pv.1 L.length pv.2)), (18, .val (.int .i64 L.length)), (19, .val (.int .i64 i))], [(1, some (.row b k 39 1 ys))], 2, μ', Mem.nil⟩) (fun p => L.length - p.1)
    (0, some r16, 0, [], μ1) ⟨by simp, Mem.Le.refl _, .nil⟩ (fun (_, _, _, _, _) => ⟨rfl, rfl⟩) ⟨⟨rfl, rfl, rfl, rfl, trivial⟩, ⟨rfl, trivial⟩, rfl, rfl⟩ ?_
  rintro ⟨i, b, k, ys, μ'⟩ ⟨hi, hle, hrows⟩
  dsimp only at hi hle hrows
  have hlen := hrows.len
  simp only [List.length_map, List.length_take] at hlen
  refine ifd (fun h => ?_) (fun h => ?_)
  · obtain ⟨c, hc⟩ := at_some (l := L) (i := i) (by omega)
    obtain ⟨ad, pc, hel, hrc⟩ := cls_elem (hsl.mono hle) hc
    have hcl2 := hbd.1 c (mem_at hc)
    have hcs : Sl μ' 4 pc.1 c.length (c.map Gl.d) := by
      obtain ⟨b', c', e1, hs⟩ := Rep.sl (xs := c.map Gl.d) hrc
      obtain ⟨rfl, _, _⟩ := Value.slice.inj e1
      simpa using hs
    refine elem_intro hel ?_
    refine call_plain (l16Copy_spec hcs (by omega) (hSh c (mem_at hc))) fun v4 μ4 hle4 hR4 => ?_
    obtain ⟨q, rfl⟩ := csD_inv hR4
    intro r26
    refine grow_intro ?_ ?_ fun b' c' _ => ?_
    · show (ys.length + 1) * 24 ≤ _; omega
    · exact Nat.le_trans (m := 100000000) (show ys.length + 1 ≤ _ by omega) (by decide)
    refine num64 (by omega) (by omega) ⟨(i + 1, b', c', _, μ4), ⟨by dsimp only; omega, hle.trans hle4, ?_⟩, by dsimp only; omega, ⟨⟨rfl, rfl, rfl, rfl, trivial⟩, ⟨rfl, trivial⟩, rfl, rfl⟩⟩
    dsimp only
    rw [List.take_add_one, hc, Option.toList_some, List.map_append]
    exact (hrows.mono hle4).append (Rows.one hR4 rfl)
  · obtain rfl : i = L.length := by omega
    rw [List.take_length] at hrows
    refine ret_frz [1] fun μ' hle' hno hrow => .inl ⟨_, rfl, ?_⟩
    exact Rows.sl hrow (hrows.mono hle') (Nat.le_trans (m := 100000000) (by omega) (by decide))
theorem shift16 {a : Int} (h0 : 0 ≤ a) (h4 : a ≤ 4) : IntKind.u64.wrap (1 * 2 ^ (min a.toNat 64)) = ((2 ^ a.toNat : Nat) : Int) ∧ IntKind.i64.wrap (1 * 2 ^ (min ((2 ^ a.toNat : Nat) : Int).toNat 64)) = 2 ^ (2 ^ a.toNat) ∧ (2 : Int) ^ (2 ^ a.toNat) ≤ 65536 ∧ 2 ≤ (2 : Int) ^ (2 ^ a.toNat) := by
  obtain ⟨n, rfl⟩ := Int.eq_ofNat_of_zero_le h0
  match n, h4 with
  | 0, _ => decide
  | 1, _ => decide
  | 2, _ => decide
  | 3, _ => decide
  | 4, _ => decide
  | n + 5, h => omega
end
end Go.Vx

/- Contracts: rows of a program's relations: both sides. -/
namespace Go.Vx
open Go.Proofs Classical
section
variable {μ : Mem}
theorem spec_RowsOk_spec {p : Pg} {v : Value} {rows : List Int} {base : Option Addr} {cap : Nat} (hp : RepV μ p.d v) (hw : p.d.wd) (hsl : Sl μ 1 base rows.length (rows.map D.i)) :
    Spec Try.prog 5 [v, .slice base rows.length cap] μ fun r _ => r = .bool (decide (RowsFit p rows)) := by
  have hp0 := hp
  obtain ⟨q, rfl, hrl⟩ := Pg.inv hp
  refine Spec.mk Try.func5 (by kernel_rfl) ?_
  intro r1
  refine call_plain (spec_IsPositive_spec hp0 hw) fun v1 μ1 hle1 hR => ?_
  obtain rfl := hR
  refine ifnd (fun h => ret_plain (isF fun k => h k.pos)) (fun hpos => ?_)
  have hok := hpos.1
  have hn := hok.1
  refine ifnd (fun h => ret_plain (isF fun k => h (by have := k.len; omega))) (fun hlen => ?_)
  have hw2 : D.wds (p.rels.map Rl.d) := by rw [Pg.d_eq] at hw; exact hw.1
  refine loop_intro (fun s : Nat × Mem => s.1 ≤ p.rels.length ∧ μ.Le s.2 ∧ ∀ (j : Nat) n x, j < s.1 → rows[j]? = some n → p.rels[j]? = some x → x.body.cl ≠ none ∧ 0 ≤ n ∧ n < 2 ^ (2 ^ x.arity.toNat))
    (fun (i, μ') => ⟨[(1, .val (.slice base rows.length cap)), (21, .val (.slice q.1 p.rels.length q.2)), (22, .val (.int .i64 p.rels.length)), (23, .val (.int .i64 i))], [], 1, μ', Mem.nil⟩) (fun s => p.rels.length - s.1)
    (0, μ1) ⟨Nat.zero_le _, hle1, fun j n x h => by dsimp only at h; omega⟩ (fun (_, _) => ⟨rfl, rfl⟩) ⟨⟨rfl, rfl, rfl, rfl, trivial⟩, trivial, rfl, rfl⟩ ?_
  rintro ⟨i, μ'⟩ ⟨hi, hle, hall⟩
  dsimp only at hi hle hall
  refine ifd (fun hlt => ?_) (fun hlt => ?_)
  · obtain ⟨x, hx⟩ := at_some (l := p.rels) (i := i) (by omega)
    obtain ⟨nn, hnn⟩ := at_some (l := rows) (i := i) (by omega)
    obtain ⟨ad, q2, hel, hr, hb⟩ := Rl.elemA (hrl.mono hle) hx
    have hb : RepV μ' x.body.d (.agg (x.body.cs q2).toArray) := hb
    have hrok := hok.2 i x hx
    obtain ⟨hsh1, hsh2, hsh3, hsh4⟩ := shift16 hrok.ar0 hrok.ar4
    have hbw : x.body.d.wd := by
      have h := D.wds_mem hw2 _ (mem_at (at_map (f := Rl.d) hx))
      rw [Rl.d_eq] at h; exact h.2.2.2.1
    refine elem_intro hel ?_
    intro r2
    refine call_plain (ClausesOf_spec hb hbw ⟨hrok.body, by have := hrok.size; omega⟩) fun v3 μ3 hle3 hR => ?_
    cases e : x.body.cl with
    | none =>
      rw [e] at hR
      obtain rfl := hR
      refine if_intro (fun _ => ?_) (fun h => nomatch h)
      exact ret_plain (isF fun k => k.cls x (mem_at hx) e)
    | some L =>
      rw [e] at hR
      obtain ⟨tv, rfl, hLr⟩ := hR
      obtain ⟨pv, rfl⟩ := hLr.inv
      refine if_intro (fun h => nomatch h) (fun _ => ?_)
      obtain ⟨ad2, hel2⟩ := Ints.elem ((hsl.mono hle).mono hle3) hnn
      refine elem_intro hel2 ?_
      refine need_intro hrok.ar0 ?_
      refine num_eq hsh1 ?_
      refine need_intro (Int.natCast_nonneg _) ?_
      refine num_eq hsh2 ?_
      refine num64 (by omega) (by omega) ?_
      refine call_gives (l01In_spec _ _ _ _) ?_
      refine ifnd (fun h => ret_plain (isF fun k => h (by have := k.rng i nn x hnn hx; omega))) (fun h => ?_)
      refine num64 (by omega) (by omega) ⟨(i + 1, μ3), ⟨by dsimp only; omega, hle.trans hle3, fun j n y hj hn2 hy => ?_⟩, by dsimp only; omega, ⟨⟨rfl, rfl, rfl, rfl, trivial⟩, trivial, rfl, rfl⟩⟩
      rcases Nat.lt_or_ge j i with h6 | h6
      · exact hall j n y h6 hn2 hy
      · obtain rfl : j = i := by omega
        rw [hx] at hy; rw [hnn] at hn2; cases hy; cases hn2
        exact ⟨by rw [e]; exact (fun h => nomatch h), h.1, by omega⟩
  · obtain rfl : i = p.rels.length := by omega
    refine ret_plain (isT ⟨hpos, fun x hx => ?_, by omega, fun i n x hn2 hx => (hall i n x (List.getElem?_eq_some_iff.1 hx).1 hn2 hx).2⟩)
    obtain ⟨j, hj⟩ := List.mem_iff_getElem?.1 hx
    have hj2 := (List.getElem?_eq_some_iff.1 hj).1
    obtain ⟨n, hn2⟩ := at_some (l := rows) (i := j) (by omega)
    exact (hall j n x hj2 hn2 hj).1
theorem impl_RowsOk_spec {p : Pg} {v : Value} {rows : List Int} {base : Option Addr} {cap : Nat} (hp : RepV μ p.d v) (hsl : Sl μ 1 base rows.length (rows.map D.i)) :
    Spec Try.prog 8 [v, .slice base rows.length cap] μ fun r _ => r = .bool (decide (RowsFit p rows)) := by
  have hp0 := hp
  obtain ⟨q, rfl, hrl⟩ := Pg.inv hp
  refine Spec.mk Try.func8 (by kernel_rfl) ?_
  intro r1
  refine call_plain (impl_IsPositive_spec hp0) fun v1 μ1 hle1 hR => ?_
  obtain rfl := hR
  refine ifnd (fun h => ret_plain (isF fun k => h k.pos)) (fun hpos => ?_)
  have hok := hpos.1
  have hn := hok.1
  refine call_plain (clausesFine_spec (hp0.mono hle1) hok) fun v2 μ2 hle2 hR => ?_
  obtain rfl := hR
  refine ifnd (fun h => ret_plain (isF fun k => h k.cls)) (fun hcls => ?_)
  refine ifnd (fun h => ret_plain (isF fun k => h (by have := k.len; omega))) (fun hlen => ?_)
  have hle := hle1.trans hle2
  generalize μ2 = μ' at *
  refine loop_intro (fun i : Nat => i ≤ p.rels.length ∧ ∀ (j : Nat) n x, j < i → rows[j]? = some n → p.rels[j]? = some x → 0 ≤ n ∧ n < 2 ^ (2 ^ x.arity.toNat))
    (fun i => ⟨[(1, .val (.slice base rows.length cap)), (24, .val (.slice q.1 p.rels.length q.2)), (25, .val (.int .i64 p.rels.length)), (26, .val (.int .i64 i))], [], 1, μ', Mem.nil⟩) (fun i => p.rels.length - i)
    0 ⟨Nat.zero_le _, fun j n x h => by omega⟩ (fun _ => ⟨rfl, rfl⟩) ⟨⟨rfl, rfl, rfl, rfl, trivial⟩, trivial, rfl, rfl⟩ ?_
  rintro i ⟨hi, hall⟩
  refine ifd (fun hlt => ?_) (fun hlt => ?_)
  · obtain ⟨x, hx⟩ := at_some (l := p.rels) (i := i) (by omega)
    obtain ⟨nn, hnn⟩ := at_some (l := rows) (i := i) (by omega)
    obtain ⟨ad, q2, hel, hr, hb⟩ := Rl.elemA (hrl.mono hle) hx
    have hb : RepV μ' x.body.d (.agg (x.body.cs q2).toArray) := hb
    have hrok := hok.2 i x hx
    obtain ⟨hsh1, hsh2, hsh3, hsh4⟩ := shift16 hrok.ar0 hrok.ar4
    obtain ⟨ad2, hel2⟩ := Ints.elem (hsl.mono hle) hnn
    refine elem_intro hel ?_
    intro r2
    refine elem_intro hel2 ?_
    refine ifd (fun h => ret_plain (isF fun k => by have := k.rng i nn x hnn hx; omega)) (fun h => ?_)
    refine elem_intro hel2 ?_
    refine need_intro hrok.ar0 ?_
    refine num_eq hsh1 ?_
    refine need_intro (Int.natCast_nonneg _) ?_
    refine num_eq hsh2 ?_
    refine ifd (fun h2 => ret_plain (isF fun k => by have := k.rng i nn x hnn hx; omega)) (fun h2 => ?_)
    refine num64 (by omega) (by omega) ⟨i + 1, ⟨by omega, fun j n y hj hn2 hy => ?_⟩, by omega, ⟨⟨rfl, rfl, rfl, rfl, trivial⟩, trivial, rfl, rfl⟩⟩
    rcases Nat.lt_or_ge j i with h6 | h6
    · exact hall j n y h6 hn2 hy
    · obtain rfl : j = i := by omega
      rw [hx] at hy; rw [hnn] at hn2; cases hy; cases hn2
      exact ⟨by omega, by omega⟩
  · obtain rfl : i = p.rels.length := by omega
    exact ret_plain (isT ⟨hpos, hcls, by omega, fun i n x hn2 hx => hall i n x (List.getElem?_eq_some_iff.1 hx).1 hn2 hx⟩)
/-! ### The law's own functions on lists of numbers -/
theorem eqIntS_spec {l : List Int} {base base' : Option Addr} {cap cap' : Nat} (hl : Sl μ 1 base l.length (l.map D.i)) (hl' : Sl μ 1 base' l.length (l.map D.i)) :
    Gives Try.prog 10 [.slice base l.length cap, .slice base' l.length cap'] μ (.bool true) := by
  have hn := maxLen_le hl.max
  refine Spec.mk Try.func10 (by kernel_rfl) ?_
  refine ifnd (fun h => absurd rfl h) (fun _ => ?_)
  refine loop_intro (fun i : Nat => i ≤ l.length) (fun i => ⟨[(0, .val (.slice base l.length cap)), (1, .val (.slice base' l.length cap')), (5, .val (.int .i64 i))], [], 0, μ, Mem.nil⟩) (fun i => l.length - i)
    0 (by omega) (fun i => ⟨rfl, rfl⟩) ⟨⟨rfl, rfl, rfl, trivial⟩, trivial, rfl, rfl⟩ ?_
  intro i hi
  refine ifd (fun h => ?_) (fun h => ?_)
  · obtain ⟨t, ht⟩ := at_some (l := l) (i := i) (by omega)
    obtain ⟨ad, hel⟩ := Ints.elem hl ht
    obtain ⟨ad', hel'⟩ := Ints.elem hl' ht
    refine elem_intro hel (elem_intro hel' ?_)
    refine ifnd (fun h => absurd rfl h) (fun _ => ?_)
    exact num64 (by omega) (by omega) ⟨i + 1, by omega, by omega, ⟨⟨rfl, rfl, rfl, trivial⟩, trivial, rfl, rfl⟩⟩
  · exact ret_gives rfl rfl
theorem toIntS_spec {l : List Int} {base : Option Addr} {cap : Nat} (hsl : Sl μ 1 base l.length (l.map D.i)) (hb : l.length ≤ 1048576) :
    Spec Try.prog 7 [.slice base l.length cap] μ fun v μ' => Fresh μ μ' (.sl 1 (l.map D.i)) v := by
  refine Spec.mk Try.func7 (by kernel_rfl) ?_
  refine make_intro l.length rfl rfl (by simp only; omega) (Nat.le_trans (m := 1048576) (by omega) (by decide)) ?_
  intro r
  refine loop_intro (fun p : Nat × List Value => ∃ g, Filled 1 (Value.int .i64 0) μ μ (l.map D.i) p.1 p.2 g)
    (fun (i, xs) => ⟨[(0, .val (.slice base l.length cap)), (3, .row 0 (some r) l.length l.length), (4, .val (.int .i64 i))], [(0, some (.row (some r) l.length 3 1 xs))], 1, μ, Mem.nil⟩) (fun p => l.length - p.1)
    (0, List.replicate l.length (Value.int .i64 0)) ⟨_, Filled.start (by simp)⟩ (fun (_, _) => ⟨rfl, rfl⟩) ⟨⟨rfl, rfl, rfl, trivial⟩, ⟨rfl, trivial⟩, rfl, rfl⟩ ?_
  rintro ⟨i, xs⟩ ⟨g, hf⟩
  dsimp only at hf
  have hi := hf.le
  have hlen := hf.len
  rw [List.length_map] at hi hlen
  refine ifd (fun h => ?_) (fun h => ?_)
  · obtain ⟨t, ht⟩ := at_some (l := l) (i := i) (by omega)
    have hx := at_map (f := D.i) ht
    obtain ⟨ad, hel⟩ := Ints.elem hsl ht
    refine elem_intro hel ?_
    have hfr : Fresh μ μ (.i t) (.int .i64 t) := ⟨Mem.nil, ⟨rfl, rfl⟩, (fun _ _ h => nomatch h), fun _ h => absurd rfl h⟩
    obtain ⟨g', hf'⟩ := hf.step hx rfl hfr (Mem.Le.refl _)
    refine rel_intro i rfl (by omega) ?_
    refine get_intro _ (hf.rest i (by omega) (by simpa using h)) ?_
    exact num64 (by omega) (by omega) ⟨(i + 1, _), ⟨g', hf'⟩, by dsimp only; omega, ⟨⟨rfl, rfl, rfl, trivial⟩, ⟨rfl, trivial⟩, rfl, rfl⟩⟩
  · obtain rfl : i = l.length := by omega
    refine ret_frz [0] fun μ2 hle2 hno hrow => .inl ?_
    have := Fresh.ofRow (hf.all (by simp)) hf.sub hf.new (Mem.Le.refl _) hle2 hno hrow (Nat.le_trans (m := 1048576) (by omega) (by decide))
    rw [hlen] at this
    exact this
end
end Go.Vx

/- The law on rows of a program. -/
namespace Go.Vx
open Go.Proofs Classical
section
variable {μ : Mem}
theorem FnExactRowsOk_spec {t0 : Pg} {v0 : Value} {l : List Int} {v1 : Value} (h0 : RepV μ t0.d v0) (h1 : RepV μ (.sl 1 (l.map D.i)) v1) (w0 : t0.d.wd) :
    Spec Try.prog 3 [v0, v1] μ fun r _ => r = .bool true := by
  obtain ⟨p0, rfl⟩ := Pg.invV h0
  obtain ⟨b1, c1, rfl, s1⟩ := Rep.sl h1
  rw [List.length_map] at s1 ⊢
  refine Spec.mk Try.func3 (by kernel_rfl) ?_
  intro r0
  refine ifd (fun h => ret_plain rfl) (fun hlen => ?_)
  refine call_gives (szProgram_spec t0 h0 (by omega) (by omega) w0) ?_
  refine ifd (fun h => ret_plain rfl) (fun h => ?_)
  have q0 := szR_ge h
  rw [szR_pos q0] at h
  have hb0 : t0.d.sz ≤ 1048576 := by omega
  have hbl : l.length ≤ 1048576 := by omega
  refine call_plain (toProgram_spec t0 h0 hb0) fun u1 μ1 hle1 hf1 => ?_
  replace h0 := h0.mono hle1
  replace s1 := s1.mono hle1
  obtain ⟨qq1, rfl⟩ := Pg.invV hf1.rep
  have a0 := hf1.rep
  refine call_plain (toIntS_spec s1 hbl) fun u2 μ2 hle2 hf2 => ?_
  replace h0 := h0.mono hle2
  replace s1 := s1.mono hle2
  replace a0 := a0.mono hle2
  obtain ⟨b2, c2, rfl, a1⟩ := Rep.sl hf2.rep
  rw [List.length_map] at a1 ⊢
  refine call_gives (Spec.forget (spec_RowsOk_spec a0 w0 a1)) ?_
  refine call_plain (toProgram_spec t0 h0 hb0) fun u3 μ3 hle3 hf3 => ?_
  replace h0 := h0.mono hle3
  replace s1 := s1.mono hle3
  obtain ⟨qq3, rfl⟩ := Pg.invV hf3.rep
  have x0 := hf3.rep
  intro rx0
  refine call_plain (toIntS_spec s1 hbl) fun u4 μ4 hle4 hf4 => ?_
  replace h0 := h0.mono hle4
  replace s1 := s1.mono hle4
  replace x0 := x0.mono hle4
  obtain ⟨b4, c4, rfl, x1⟩ := Rep.sl hf4.rep
  rw [List.length_map] at x1 ⊢
  refine call_gives (Spec.forget (impl_RowsOk_spec x0 x1)) ?_
  refine if_intro (fun h => absurd h (by simp)) (fun _ => ?_)
  refine call_plain (toProgram_spec t0 h0 hb0) fun u5 μ5 hle5 hf5 => ?_
  replace h0 := h0.mono hle5
  replace s1 := s1.mono hle5
  replace x0 := x0.mono hle5
  replace x1 := x1.mono hle5
  obtain ⟨qq5, rfl⟩ := Pg.invV hf5.rep
  have y0 := hf5.rep
  refine call_gives (eqProgram_spec _ x0 y0) ?_
  refine if_intro (fun h => nomatch h) (fun _ => ?_)
  refine call_plain (toIntS_spec s1 hbl) fun u6 μ6 hle6 hf6 => ?_
  replace x1 := x1.mono hle6
  obtain ⟨b6, c6, rfl, y1⟩ := Rep.sl hf6.rep
  rw [List.length_map] at y1 ⊢
  refine call_gives (eqIntS_spec x1 y1) ?_
  refine if_intro (fun h => nomatch h) (fun _ => ?_)
  exact ret_plain rfl
theorem read_IntS : Reads Try.prog 25 fun d => ∃ l : List Int, d = .sl 1 (l.map D.i) := fun n =>
  (reads_sl ti25.kind (cellsOf_tt ti3) (fun d h => by obtain ⟨a, rfl, _⟩ := h; rfl) (reads_int und_int) n).weaken fun d h => by
    obtain ⟨xs, rfl, hx⟩ := h
    obtain ⟨l, rfl⟩ := lift_list (f := D.i) fun x h => by obtain ⟨k, h, _⟩ := hx x h; exact ⟨k, h⟩
    exact ⟨l, rfl⟩
end
end Go.Vx

