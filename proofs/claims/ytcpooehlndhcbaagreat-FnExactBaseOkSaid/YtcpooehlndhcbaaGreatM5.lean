/- Texts of the proof, part 5. -/
import Derived.Orders
import Derived.Below
import Derived.WalkKit
import Derived.MapKept
import Derived.WideKeyMaps
import Derived.Maps.RangeRun
import Derived.Laws.Cover3
import Derived.Laws.IdiomStrings
import Derived.Laws.BytesString
import Derived.Deep.RegionHeld3
import Derived.Carry
import Derived.ChangeArms
import Derived.RowKit3
import Derived.Test.YtcpooehlndhcbaaGreatChecked
import Derived.KernelRfl
import Derived.ProofKit
import Derived.OpenShut
import Derived.ChangeOld
import Derived.Handed
import Derived.JoinedOf
import Derived.Sort.AssemblyPlain
import Derived.Lib.ReflectliteSwap
import Derived.DeepKeys3
import Derived.Test.YtcpooehlndhcbaaGreatM4
/- Contracts: ground terms, universes, relations found, facts of a program: both sides. -/
namespace Go.Vx
open Go.Proofs Classical
/-- A ground term, as data. -/
def GndT (t : Tm) : Prop := t.Ok ∧ t.toT.vars = []
structure UnivOk (l : List Tm) : Prop where
  pos : 1 ≤ l.length
  max : l.length ≤ 8
  gnd : ∀ t ∈ l, GndT t
  asc : ∀ (i : Nat) x y, l[i]? = some x → l[i + 1]? = some y → x.toT.cmp y.toT < 0
/-- The universe as terms. -/
theorem UnivOk.lift {l : List Tm} (h : UnivOk l) : ∃ U : List T, l = U.map T.tm ∧ (∀ x ∈ U, x.ok ∧ x.vars = []) ∧ U.length = l.length := by
  have hv_ := lift_ok fun t ht => (h.gnd t ht).1
  obtain ⟨U, rfl, hU⟩ := hv_
  refine ⟨U, rfl, fun x hx => ⟨hU x hx, ?_⟩, by rw [List.length_map]⟩
  have := (h.gnd x.tm (List.mem_map_of_mem hx)).2
  rwa [T.toT_tm] at this
def relFor (p : Pg) (f : Fc) : Prop := ∃ (k : Nat) (r : Rl), relAt p f.rel = (k : Int) ∧ p.rels[k]? = some r ∧ r.arity = (f.args.length : Int)
/-- A fact of a well-formed program. -/
def FactFits (p : Pg) (f : Fc) : Prop := relFor p f ∧ ∀ t ∈ f.args, GndT t
noncomputable def Fc.f (x : Fc) : F := ⟨x.rel, x.args.map Tm.toT⟩
theorem F.fc_f (f : F) : f.fc.f = f := by
  show F.mk f.rel ((f.args.map T.tm).map Tm.toT) = f
  rw [toTs_tm]
theorem FactFits.lift {p : Pg} {x : Fc} (h : FactFits p x) : x.f.fc = x ∧ ∀ a ∈ x.f.args, a.ok ∧ a.vars = [] := by
  have hv_ := lift_ok fun t ht => (h.2 t ht).1
  obtain ⟨xs, hxs, hok⟩ := hv_
  have e : x.f.args = xs := by show x.args.map Tm.toT = xs; rw [hxs, toTs_tm]
  refine ⟨?_, fun a ha => ?_⟩
  · show Fc.mk x.rel (x.f.args.map T.tm) = x
    rw [e, ← hxs]
  · rw [e] at ha
    refine ⟨hok a ha, ?_⟩
    have := (h.2 a.tm (by rw [hxs]; exact List.mem_map_of_mem ha)).2
    rwa [T.toT_tm] at this
theorem facts_lift {p : Pg} : ∀ {l : List Fc}, (∀ x ∈ l, FactFits p x) → (l.map Fc.f).map F.fc = l
  | [], _ => rfl
  | x :: l, h => by
    rw [List.map_cons, List.map_cons, (h x (by simp)).lift.1, facts_lift fun y hy => h y (by simp [hy])]
section
variable {μ : Mem}
theorem spec_IsGround_any (t : Tm) {v : Value} (hv : RepV μ t.d v) (hw : t.d.wd) : Gives Tryz.prog 112 [v] μ (.bool (decide (GndT t))) := by
  by_cases h : t.Ok
  · obtain ⟨x, hx, rfl⟩ := h.lift
    have := spec_IsGround_spec x hv hx hw
    have e : (decide (x.vars = [])) = decide (GndT x.tm) := decide_eq_decide.2 ⟨fun k => ⟨h, by rw [T.toT_tm]; exact k⟩, fun k => by have := k.2; rwa [T.toT_tm] at this⟩
    rwa [e] at this
  · have hv_ := Tm.invV hv
    obtain ⟨p, rfl⟩ := hv_
    refine Spec.mk Tryz.func112 (by kernel_rfl) ?_
    intro r
    refine call_gives (spec_TermOk_spec t hv hw) ?_
    refine ifd (fun k => absurd k h) (fun _ => ?_)
    exact ret_gives (by rw [decide_eq_false fun k => h k.1]) rfl
theorem impl_IsGround_any (t : Tm) {v : Value} (hv : RepV μ t.d v) : Gives Tryz.prog 120 [v] μ (.bool (decide (GndT t))) := by
  have hv0 := hv
  have hv_ := Tm.invV hv
  obtain ⟨p, rfl⟩ := hv_
  refine Spec.forget (Spec.mk Tryz.func120 (by kernel_rfl) ?_)
  intro r
  refine call_gives (impl_TermOk_spec t hv0) ?_
  refine ifd (fun h => ?_) (fun h => ?_)
  · obtain ⟨x, hx, rfl⟩ := h.lift
    refine call_gives (isGround_spec x hv0) ?_
    refine ret_plain (isI ⟨fun k => ⟨h, by rw [T.toT_tm]; exact k⟩, fun k => by have := k.2; rwa [T.toT_tm] at this⟩)
  · exact ret_plain (isF fun k => h k.1)
def UnivTo (l : List Tm) (i : Nat) : Prop := ∀ j, j < i → (∀ t, l[j]? = some t → GndT t) ∧ ∀ k x y, k + 1 = j → l[k]? = some x → l[j]? = some y → x.toT.cmp y.toT < 0
theorem UnivTo.all {l : List Tm} (h : UnivTo l l.length) (h1 : 1 ≤ l.length) (h8 : l.length ≤ 8) : UnivOk l where
  pos := h1
  max := h8
  gnd t ht := by
    have hv_ := List.mem_iff_getElem?.1 ht
    obtain ⟨j, hj⟩ := hv_
    exact (h j (List.getElem?_eq_some_iff.1 hj).1).1 t hj
  asc i x y hx hy := (h (i + 1) (List.getElem?_eq_some_iff.1 hy).1).2 i x y rfl hx hy
theorem UnivOk.to {l : List Tm} (h : UnivOk l) (i : Nat) : UnivTo l i := fun j _ => ⟨fun t ht => h.gnd t (mem_at ht), fun k x y hk hx hy => by subst hk; exact h.asc k x y hx hy⟩
theorem spec_UniverseOk_spec {l : List Tm} {base : Option Addr} {cap : Nat} (hsl : Sl μ 4 base l.length (l.map Tm.d)) (hw : D.wds (l.map Tm.d)) :
    Gives Tryz.prog 239 [.slice base l.length cap] μ (.bool (decide (UnivOk l))) := by
  have hn := maxLen_le hsl.max
  have bad : ¬ UnivOk l → Value.bool false = .bool (decide (UnivOk l)) := fun k => isF k
  refine Spec.mk Tryz.func239 (by kernel_rfl) ?_
  refine loop_intro (fun i : Nat => i ≤ l.length ∧ UnivTo l i)
    (fun i => ⟨[(0, .val (.slice base l.length cap)), (5, .val (.slice base l.length cap)), (6, .val (.int .i64 l.length)), (7, .val (.int .i64 i))], [], 0, μ, Mem.nil⟩) (fun i => l.length - i)
    0 ⟨Nat.zero_le _, fun j hj => by omega⟩ (fun _ => ⟨rfl, rfl⟩) ⟨⟨rfl, rfl, rfl, rfl, trivial⟩, trivial, rfl, rfl⟩ ?_
  rintro i ⟨hi, hall⟩
  refine ifd (fun hlt => ?_) (fun hlt => ?_)
  · have hv_ := at_some (l := l) (i := i) (by omega)
    obtain ⟨t, ht⟩ := hv_
    have hv_ := Tm.elem hsl ht
    obtain ⟨ad, p, hel, hr⟩ := hv_
    refine elem_intro hel ?_
    intro r4
    refine call_gives (spec_IsGround_any t hr (D.wds_mem hw _ (mem_at (at_map (f := Tm.d) ht)))) ?_
    refine ifnd (fun h => ret_gives (bad fun k => h (k.gnd t (mem_at ht))) rfl) (fun hg => ?_)
    have ok1 : (∀ k x y, k + 1 = i → l[k]? = some x → l[i]? = some y → x.toT.cmp y.toT < 0) → UnivTo l (i + 1) := fun hc j hj => by
      rcases Nat.lt_or_ge j i with h6 | h6
      · exact hall j h6
      · obtain rfl : j = i := by omega
        exact ⟨fun t' ht' => by rw [ht] at ht'; cases ht'; exact hg, hc⟩
    refine ifd (fun hi0 => ?_) (fun hi0 => ?_)
    · have hv_ := at_some (l := l) (i := i - 1) (by omega)
      obtain ⟨t', ht'⟩ := hv_
      have hv_ := Tm.elem hsl ht'
      obtain ⟨ad', p', hel', hr'⟩ := hv_
      have hg' := (hall (i - 1) (by omega)).1 t' ht'
      obtain ⟨x, _, rfl⟩ := hg.1.lift
      obtain ⟨y, _, rfl⟩ := hg'.1.lift
      refine num64 (by omega) (by omega) ?_
      refine elem_intro (by rw [show ((i : Int) - 1) = ((i - 1 : Nat) : Int) by omega]; exact hel') ?_
      refine call_gives (l02Cmp_spec y x hr' hr) ?_
      refine ifd (fun hc => (fun e => ret_gives e rfl) ?_ ) (fun hc => ?_)
      · refine bad fun k => ?_
        have := k.asc (i - 1) _ _ ht' (by rw [show i - 1 + 1 = i by omega]; exact ht)
        rw [T.toT_tm, T.toT_tm] at this
        omega
      · refine num64 (by omega) (by omega) ⟨i + 1, ⟨by omega, ok1 fun k a b hk ha hb => ?_⟩, by omega, ⟨⟨rfl, rfl, rfl, rfl, trivial⟩, trivial, rfl, rfl⟩⟩
        obtain rfl : k = i - 1 := by omega
        rw [ht'] at ha; rw [ht] at hb; cases ha; cases hb
        rw [T.toT_tm, T.toT_tm]; omega
    · exact num64 (by omega) (by omega) ⟨i + 1, ⟨by omega, ok1 fun k a b hk _ _ => by omega⟩, by omega, ⟨⟨rfl, rfl, rfl, rfl, trivial⟩, trivial, rfl, rfl⟩⟩
  · obtain rfl : i = l.length := by omega
    refine call_gives (l01In_spec _ _ _ _) ?_
    refine ret_gives (isI ?_) rfl
    exact ⟨fun h => hall.all (by omega) (by omega), fun h => ⟨by have := h.pos; omega, by have := h.max; omega⟩⟩
theorem impl_UniverseOk_spec {l : List Tm} {base : Option Addr} {cap : Nat} (hsl : Sl μ 4 base l.length (l.map Tm.d)) :
    Gives Tryz.prog 247 [.slice base l.length cap] μ (.bool (decide (UnivOk l))) := by
  have hn := maxLen_le hsl.max
  have bad : ¬ UnivOk l → Value.bool false = .bool (decide (UnivOk l)) := fun k => isF k
  refine Spec.mk Tryz.func247 (by kernel_rfl) ?_
  refine ifd (fun h => ret_gives (bad fun k => by have := k.pos; omega) rfl) (fun h1 => ?_)
  refine ifd (fun h => ret_gives (bad fun k => by have := k.max; omega) rfl) (fun h8 => ?_)
  refine loop_intro (fun i : Nat => i ≤ l.length ∧ UnivTo l i)
    (fun i => ⟨[(0, .val (.slice base l.length cap)), (13, .val (.slice base l.length cap)), (14, .val (.int .i64 l.length)), (15, .val (.int .i64 i))], [], 0, μ, Mem.nil⟩) (fun i => l.length - i)
    0 ⟨Nat.zero_le _, fun j hj => by omega⟩ (fun _ => ⟨rfl, rfl⟩) ⟨⟨rfl, rfl, rfl, rfl, trivial⟩, trivial, rfl, rfl⟩ ?_
  rintro i ⟨hi, hall⟩
  refine ifd (fun hlt => ?_) (fun hlt => ?_)
  · have hv_ := at_some (l := l) (i := i) (by omega)
    obtain ⟨t, ht⟩ := hv_
    have hv_ := Tm.elem hsl ht
    obtain ⟨ad, p, hel, hr⟩ := hv_
    refine elem_intro hel ?_
    intro r4
    refine call_gives (impl_IsGround_any t hr) ?_
    refine ifnd (fun h => ret_gives (bad fun k => h (k.gnd t (mem_at ht))) rfl) (fun hg => ?_)
    have ok1 : (∀ k x y, k + 1 = i → l[k]? = some x → l[i]? = some y → x.toT.cmp y.toT < 0) → UnivTo l (i + 1) := fun hc j hj => by
      rcases Nat.lt_or_ge j i with h6 | h6
      · exact hall j h6
      · obtain rfl : j = i := by omega
        exact ⟨fun t' ht' => by rw [ht] at ht'; cases ht'; exact hg, hc⟩
    refine ifd (fun hi0 => ?_) (fun hi0 => ?_)
    · have hv_ := at_some (l := l) (i := i - 1) (by omega)
      obtain ⟨t', ht'⟩ := hv_
      have hv_ := Tm.elem hsl ht'
      obtain ⟨ad', p', hel', hr'⟩ := hv_
      have hg' := (hall (i - 1) (by omega)).1 t' ht'
      obtain ⟨x, _, rfl⟩ := hg.1.lift
      obtain ⟨y, _, rfl⟩ := hg'.1.lift
      refine num64 (by omega) (by omega) ?_
      refine elem_intro (by rw [show ((i : Int) - 1) = ((i - 1 : Nat) : Int) by omega]; exact hel') ?_
      refine call_gives (orderTerms_spec y x hr' hr) ?_
      refine ifd (fun hc => (fun e => ret_gives e rfl) ?_ ) (fun hc => ?_)
      · refine bad fun k => ?_
        have := k.asc (i - 1) _ _ ht' (by rw [show i - 1 + 1 = i by omega]; exact ht)
        rw [T.toT_tm, T.toT_tm] at this
        omega
      · refine num64 (by omega) (by omega) ⟨i + 1, ⟨by omega, ok1 fun k a b hk ha hb => ?_⟩, by omega, ⟨⟨rfl, rfl, rfl, rfl, trivial⟩, trivial, rfl, rfl⟩⟩
        obtain rfl : k = i - 1 := by omega
        rw [ht'] at ha; rw [ht] at hb; cases ha; cases hb
        rw [T.toT_tm, T.toT_tm]; omega
    · exact num64 (by omega) (by omega) ⟨i + 1, ⟨by omega, ok1 fun k a b hk _ _ => by omega⟩, by omega, ⟨⟨rfl, rfl, rfl, rfl, trivial⟩, trivial, rfl, rfl⟩⟩
  · obtain rfl : i = l.length := by omega
    exact ret_gives (isT (hall.all (by omega) (by omega))) rfl
/-! ### Relations -/
noncomputable def findR (p : Pg) (s : ByteArray) : Int := if p.Ok then relAt p s else -1
theorem spec_FindRel_spec {p : Pg} {s : ByteArray} {v : Value} (hp : RepV μ p.d v) (hw : p.d.wd) : Spec Tryz.prog 111 [v, .string s] μ fun r _ => r = .int .i64 (findR p s) := by
  have hp0 := hp
  have hv_ := Pg.inv hp
  obtain ⟨q, rfl, _⟩ := hv_
  refine Spec.mk Tryz.func111 (by kernel_rfl) ?_
  intro r2
  refine call_plain (spec_ProgramOk_spec hp0 hw) fun v1 μ1 hle1 hR => ?_
  obtain rfl := hR
  refine ifnd (fun h => ret_plain (by rw [findR, if_neg h])) (fun h => ?_)
  refine call_gives (l14Find_spec (hp0.mono hle1)) ?_
  exact ret_plain (by rw [findR, if_pos h])
end
end Go.Vx

/- Plain: groundness: rows as sets of bits; one step; the rows in the end. -/
namespace Go.Vx
open Go.Proofs Classical
/-! ### Numbers with given bits -/
noncomputable def numTo (P : Nat → Prop) : Nat → Nat
  | 0 => 0
  | n + 1 => numTo P n + if P n then 2 ^ n else 0
theorem numTo_lt (P : Nat → Prop) : ∀ n, numTo P n < 2 ^ n
  | 0 => by simp [numTo]
  | n + 1 => by
    have h := numTo_lt P n
    have e : 2 ^ (n + 1) = 2 ^ n + 2 ^ n := by rw [Nat.pow_succ]; omega
    rw [numTo, e]
    split <;> omega
theorem numTo_bit (P : Nat → Prop) : ∀ n k, (numTo P n).testBit k = decide (k < n ∧ P k)
  | 0, k => by simp [numTo]
  | n + 1, k => by
    have ih := numTo_bit P n k
    have hlt := numTo_lt P n
    rw [numTo]
    split
    · rename_i h
      rw [Nat.add_comm]
      rcases Nat.lt_trichotomy k n with h1 | h1 | h1
      · rw [Nat.testBit_two_pow_add_gt h1, ih]
        congr 1
        exact propext ⟨fun k => ⟨by omega, k.2⟩, fun k => ⟨h1, k.2⟩⟩
      · subst h1
        rw [Nat.testBit_two_pow_add_eq, ih]
        simp [h]
      · rw [Nat.testBit_lt_two_pow]
        · simp; omega
        · have : 2 ^ (n + 1) ≤ 2 ^ k := Nat.pow_le_pow_right (by omega) h1
          rw [Nat.pow_succ] at this; omega
    · rename_i h
      rw [Nat.add_zero, ih]
      congr 1
      refine propext ⟨fun g => ⟨by omega, g.2⟩, fun g => ⟨?_, g.2⟩⟩
      have : k ≠ n := fun e => by subst e; exact h g.2
      omega
theorem eq_numTo {P : Nat → Prop} {n m : Nat} (hm : m < 2 ^ n) (h : ∀ k, k < n → (m.testBit k = true ↔ P k)) : m = numTo P n := by
  refine Nat.eq_of_testBit_eq fun k => ?_
  rw [numTo_bit]
  by_cases hk : k < n
  · rw [Bool.eq_iff_iff, h k hk, decide_eq_true_eq]; simp [hk]
  · have : 2 ^ n ≤ 2 ^ k := Nat.pow_le_pow_right (by omega) (by omega)
    rw [Nat.testBit_lt_two_pow (by omega)]
    simp [hk]
/-! ### Groundness -/
/-- Every variable of a term is in the set. -/
def gndBy (s : Nat) (x : T) : Prop := ∀ n ∈ x.vars, s.testBit n.toNat = true
def fitEq (s : Nat) : T → T → Prop
  | .pair a b, .pair c d => fitEq s a c ∧ fitEq s b d
  | x, y => if x.tm.kind = 1 ∨ y.tm.kind = 1 then (gndBy s x ↔ gndBy s y) else x = y
noncomputable def callRow (s : Nat) (l : List T) : Nat → Nat := numTo fun i => ∃ x, l[i]? = some x ∧ gndBy s x
/-- A set fits a goal of a clause. -/
noncomputable def fitG (p : Pg) (rows : List Nat) (s : Nat) (g : Gl) : Prop :=
  if g.kind = 2 then ∃ x y, g.terms = [x, y] ∧ fitEq s x.toT y.toT
  else if g.kind = 9 then ∃ n, rows[(relAt p g.name).toNat]? = some n ∧ n.testBit (callRow s (g.terms.map Tm.toT) g.terms.length) = true
  else True
/-- A row of a relation that one step finds. -/
def rowHit (p : Pg) (rows : List Nat) (r : Rl) (k : Nat) : Prop :=
  ∃ s L c, s < 2 ^ (r.arity + r.locals).toNat ∧ s % 2 ^ r.arity.toNat = k ∧ r.body.cl = some L ∧ c ∈ L ∧ ∀ g ∈ c, fitG p rows s g
end Go.Vx

/- Contracts: groundness by a set of variables: terms and equations, both sides. -/
namespace Go.Vx
open Go.Proofs Classical
/-! ### Plain: bits -/
/-- Small variables. -/
def Low (x : T) : Prop := ∀ n ∈ x.vars, 0 ≤ n ∧ n ≤ 60
theorem Low.arg {x y : T} (h : Low x) (hy : y ∈ x.args) : Low y := fun n hn => by
  cases x with
  | pair a b =>
    simp only [T.args, List.mem_cons, List.not_mem_nil, or_false] at hy
    refine h n ?_
    rw [T.vars, List.mem_append]
    rcases hy with rfl | rfl
    · exact .inl hn
    · exact .inr hn
  | _ => simp [T.args] at hy
theorem Low.var {x : T} (h : Low x) (hk : x.tm.kind = 1) : 0 ≤ x.tm.num ∧ x.tm.num ≤ 60 := by
  cases x with
  | var n => exact h n (by simp [T.vars])
  | _ => simp [T.tm, Tm.kind] at hk
section
variable {μ : Mem}
end
end Go.Vx

/- Contracts: groundness: goals and clauses that fit a set, both sides. -/
namespace Go.Vx
open Go.Proofs Classical
/-! ### Plain -/
def Gl.single (x : Gl) : Prop := x.kind ≠ 0 ∧ x.kind ≠ 1 ∧ x.kind ≠ 7 ∧ x.kind ≠ 8
mutual
theorem Gl.cl_all : ∀ (g : Gl) {L : List (List Gl)}, g.cl = some L → ∀ c ∈ L, ∀ x ∈ c, x ∈ g.all ∧ x.single
  | .mk k s ts gs, L, h => by
    have hsub : ∀ y ∈ gs, ∀ x ∈ y.all, x ∈ (Gl.mk k s ts gs).all := fun y hy x hx => by
      rw [Gl.all_eq]
      exact List.mem_cons_of_mem _ (List.mem_flatMap.2 ⟨y, hy, hx⟩)
    rw [Gl.cl] at h
    split at h
    · cases h; simp
    rename_i h0
    split at h
    · cases h; simp
    rename_i h1
    split at h
    · exact Gl.clOr_all gs (fun x => x ∈ (Gl.mk k s ts gs).all ∧ x.single) (fun y hy x hx hs => ⟨hsub y hy x hx, hs⟩) (by simp) h
    rename_i h8
    split at h
    · exact Gl.clAnd_all gs (fun x => x ∈ (Gl.mk k s ts gs).all ∧ x.single) (fun y hy x hx hs => ⟨hsub y hy x hx, hs⟩) (by simp) h
    · rename_i h7
      cases h
      intro c hc x hx
      rw [List.mem_singleton.1 hc] at hx
      rw [List.mem_singleton.1 hx]
      exact ⟨by rw [Gl.all_eq]; simp, h0, h1, h7, h8⟩
theorem Gl.clOr_all : ∀ (gs : List Gl) (Q : Gl → Prop) {acc L : List (List Gl)}, (∀ y ∈ gs, ∀ x ∈ y.all, x.single → Q x) → (∀ c ∈ acc, ∀ x ∈ c, Q x) → Gl.clOr gs acc = some L → ∀ c ∈ L, ∀ x ∈ c, Q x
  | [], Q, acc, L, _, h1, h => by
    rw [Gl.clOr] at h; cases h; exact h1
  | g :: gs, Q, acc, L, hQ, h1, h => by
    rw [Gl.clOr] at h
    cases e : g.cl with
    | none => rw [e] at h; cases h
    | some l =>
      rw [e, Option.bind_some] at h
      have hb := Gl.cl_all g e
      split at h
      · exact Gl.clOr_all gs Q (acc := acc ++ l) (fun y hy => hQ y (by simp [hy])) (fun c hc x hx => by
          rcases List.mem_append.1 hc with hc | hc
          · exact h1 c hc x hx
          · exact hQ g (by simp) x (hb c hc x hx).1 (hb c hc x hx).2) h
      · cases h
theorem Gl.clAnd_all : ∀ (gs : List Gl) (Q : Gl → Prop) {acc L : List (List Gl)}, (∀ y ∈ gs, ∀ x ∈ y.all, x.single → Q x) → (∀ c ∈ acc, ∀ x ∈ c, Q x) → Gl.clAnd gs acc = some L → ∀ c ∈ L, ∀ x ∈ c, Q x
  | [], Q, acc, L, _, h1, h => by
    rw [Gl.clAnd] at h; cases h; exact h1
  | g :: gs, Q, acc, L, hQ, h1, h => by
    rw [Gl.clAnd] at h
    cases e : g.cl with
    | none => rw [e] at h; cases h
    | some l =>
      rw [e, Option.bind_some] at h
      have hb := Gl.cl_all g e
      split at h
      · exact Gl.clAnd_all gs Q (acc := prodC acc l) (fun y hy => hQ y (by simp [hy])) (fun c hc => by
          have hv_ := prodC_mem hc
          obtain ⟨u, hu, w, hw, rfl⟩ := hv_
          intro x hx
          rcases List.mem_append.1 hx with hx | hx
          · exact h1 u hu x hx
          · exact hQ g (by simp) x (hb w hw x hx).1 (hb w hw x hx).2) h
      · cases h
end
/-- A goal that may stand in a clause of a program whose rows these are. -/
structure GOk (p : Pg) (rows : List Nat) (g : Gl) : Prop where
  sh : g.Sh
  one : g.single
  low : ∀ t ∈ g.terms, Low t.toT
  rel : g.kind = 9 → ∃ k n : Nat, relAt p g.name = (k : Int) ∧ rows[k]? = some n ∧ n < 65536
theorem GOk.of {p : Pg} (hp : p.Ok) {rows : List Nat} (hl : rows.length = p.rels.length) (hr : ∀ n ∈ rows, n < 65536) {i : Nat} {r : Rl} (hi : p.rels[i]? = some r) {L : List (List Gl)} (hL : r.body.cl = some L) {c : List Gl} (hc : c ∈ L) {g : Gl} (hg : g ∈ c) : GOk p rows g := by
  have hrel := hp.2 i r hi
  have hv_ := Gl.cl_all r.body hL c hc g hg
  obtain ⟨h1, h2⟩ := hv_
  have hsh := hrel.body.all _ g h1
  refine ⟨hsh, h2, fun t ht n hn => ?_, fun h9 => ?_⟩
  · have hv : n ∈ r.body.vars := by
      rw [Gl.vars]
      exact List.mem_flatMap.2 ⟨g, h1, List.mem_flatMap.2 ⟨t.toT, List.mem_map.2 ⟨t, ht, rfl⟩, hn⟩⟩
    have hlt := hrel.vars n hv
    have hge := Gl.vars_range hrel.body n hv
    have := hrel.ar4; have := hrel.lo8
    omega
  · have hv_ := hrel.calls.all g h1 h9
    obtain ⟨k, q, hk, hq, _⟩ := hv_
    have hlen := (List.getElem?_eq_some_iff.1 hq).1
    have hv_ := at_some (l := rows) (i := k) (by omega)
    obtain ⟨n, hn⟩ := hv_
    exact ⟨k, n, hk, hn, hr n (mem_at hn)⟩
section
variable {μ : Mem}
end
end Go.Vx

/- Contracts: one step of groundness, both sides. -/
namespace Go.Vx
open Go.Proofs Classical
/-! ### Plain -/
/-- A number whose bits are the rows of the pairs that are done and fit. -/
structure BitsOf (p : Pg) (rows : List Nat) (a N : Nat) (D : Nat → List Gl → Prop) : Prop where
  lt : N < 2 ^ (2 ^ a)
  bit : ∀ k, k < 2 ^ a → (N.testBit k = true ↔ ∃ s c, D s c ∧ s % 2 ^ a = k ∧ ∀ g ∈ c, fitG p rows s g)
section
variable {p : Pg} {rows : List Nat} {a N : Nat} {D D' : Nat → List Gl → Prop}
theorem BitsOf.zero (h : ∀ s c, ¬ D s c) : BitsOf p rows a 0 D where
  lt := Nat.two_pow_pos _
  bit := fun k _ => by
    simp only [Nat.zero_testBit, Bool.false_eq_true, false_iff]
    rintro ⟨s, c, h1, _⟩
    exact h s c h1
theorem BitsOf.congr (h : BitsOf p rows a N D) (e : ∀ s c, D' s c ↔ D s c) : BitsOf p rows a N D' where
  lt := h.lt
  bit := fun k hk => by simp only [e]; exact h.bit k hk
end
def DI (L : List (List Gl)) (M j b : Nat) (s : Nat) (c : List Gl) : Prop := (c ∈ L.take j ∧ s < M) ∨ (L[j]? = some c ∧ s < b)
def DS (L : List (List Gl)) (s0 j : Nat) (s : Nat) (c : List Gl) : Prop := (s < s0 ∧ c ∈ L) ∨ (s = s0 ∧ c ∈ L.take j)
theorem DI.next {L : List (List Gl)} {M j b : Nat} {c0 : List Gl} (h : L[j]? = some c0) (s : Nat) (c : List Gl) : DI L M j (b + 1) s c ↔ DI L M j b s c ∨ (s = b ∧ c = c0) := by
  unfold DI
  rw [h]
  constructor
  · rintro (k | ⟨k1, k2⟩)
    · exact .inl (.inl k)
    · cases k1
      rcases Nat.lt_or_ge s b with k3 | k3
      · exact .inl (.inr ⟨rfl, k3⟩)
      · exact .inr ⟨by omega, rfl⟩
  · rintro ((k | ⟨k1, k2⟩) | ⟨rfl, rfl⟩)
    · exact .inl k
    · exact .inr ⟨k1, by omega⟩
    · exact .inr ⟨rfl, by omega⟩
theorem DS.next {L : List (List Gl)} {s0 j : Nat} {c0 : List Gl} (h : L[j]? = some c0) (s : Nat) (c : List Gl) : DS L s0 (j + 1) s c ↔ DS L s0 j s c ∨ (s = s0 ∧ c = c0) := by
  unfold DS
  rw [List.take_add_one, h, Option.toList_some, List.mem_append, List.mem_singleton]
  constructor
  · rintro (k | ⟨rfl, k | rfl⟩)
    · exact .inl (.inl k)
    · exact .inl (.inr ⟨rfl, k⟩)
    · exact .inr ⟨rfl, rfl⟩
  · rintro ((k | ⟨rfl, k⟩) | ⟨rfl, rfl⟩)
    · exact .inl k
    · exact .inr ⟨rfl, .inl k⟩
    · exact .inr ⟨rfl, .inr rfl⟩
/-- What the pairs of a relation's clauses and sets make is its row. -/
theorem BitsOf.row {p : Pg} {rows : List Nat} {r : Rl} {L : List (List Gl)} (hL : r.body.cl = some L) {a l N : Nat} (ha : r.arity = (a : Int)) (hl : r.locals = (l : Int)) {D : Nat → List Gl → Prop} (h : BitsOf p rows a N D) (e : ∀ s c, D s c ↔ c ∈ L ∧ s < 2 ^ (a + l)) : N = numTo (rowHit p rows r) (2 ^ r.arity.toNat) := by
  have e1 : r.arity.toNat = a := by omega
  have e2 : (r.arity + r.locals).toNat = a + l := by omega
  rw [e1]
  refine eq_numTo h.lt fun k hk => ?_
  rw [h.bit k hk]
  constructor
  · rintro ⟨s, c, h1, h2, h3⟩
    have hv_ := (e s c).1 h1
    obtain ⟨h4, h5⟩ := hv_
    exact ⟨s, L, c, by rw [e2]; exact h5, by rw [e1]; exact h2, hL, h4, h3⟩
  · rintro ⟨s, L', c, h1, h2, h3, h4, h5⟩
    rw [hL] at h3
    cases h3
    rw [e2] at h1
    rw [e1] at h2
    exact ⟨s, c, (e s c).2 ⟨h4, h1⟩, h2, h5⟩
/-- A program and rows that fit it. -/
structure RowsIn (p : Pg) (rows : List Nat) : Prop where
  ok : p.Ok
  cls : ∀ r ∈ p.rels, r.body.cl ≠ none
  len : rows.length = p.rels.length
  lt : ∀ n ∈ rows, n < 65536
section
variable {μ : Mem}
end
end Go.Vx

/- Contracts: facts of a program, ground rules: the reference's side. -/
namespace Go.Vx
open Go.Proofs Classical
section
variable {μ : Mem}
/-- The relation of a fact. -/
theorem relFor_at {p : Pg} {f : Fc} {k : Nat} (hk : relAt p f.rel = (k : Int)) {r : Rl} (hr : p.rels[k]? = some r) : relFor p f ↔ r.arity = (f.args.length : Int) := by
  constructor
  · rintro ⟨k', r', h1, h2, h3⟩
    have e : k' = k := by omega
    rw [e, hr] at h2; cases h2; exact h3
  · exact fun h => ⟨k, r, hk, hr, h⟩
theorem relAt_get {p : Pg} {s : ByteArray} (h : 0 ≤ relAt p s) : ∃ (k : Nat) (r : Rl), relAt p s = (k : Int) ∧ p.rels[k]? = some r ∧ r.name = s := by
  have hv_ := relFrom_some (l := p.rels) (i := 0) (s := s) h
  obtain ⟨j, r, h1, h2, h3⟩ := hv_
  exact ⟨j, r, by rw [relAt, h1]; congr 1; omega, h2, h3⟩
theorem spec_FactOk_spec {p : Pg} {f : Fc} {v w : Value} (hp : RepV μ p.d v) (hw : p.d.wd) (hf : RepV μ f.d w) (hwf : f.d.wd) :
    Spec Tryz.prog 244 [v, w] μ fun r _ => r = .bool (decide (p.Ok ∧ FactFits p f)) := by
  have hp0 := hp
  have hv_ := Pg.inv hp
  obtain ⟨q0, rfl, hrl⟩ := hv_
  have hv_ := Fc.inv hf
  obtain ⟨q, rfl, hA⟩ := hv_
  have hA : Sl μ 4 q.1 f.args.length (f.args.map Tm.d) := hA
  have hn := maxLen_le hA.max
  refine Spec.mk Tryz.func244 (by kernel_rfl) ?_
  intro r2 r3
  refine call_plain (spec_FindRel_spec hp0 hw) fun v1 μ1 hle1 hR => ?_
  obtain rfl := hR
  refine ifd (fun hneg => ret_plain (isF fun k => ?_)) (fun hge => ?_)
  · obtain ⟨k', r', h1, _⟩ := k.2.1
    rw [findR, if_pos k.1] at hneg
    omega
  have hok : p.Ok := Classical.byContradiction fun k => by rw [findR, if_neg k] at hge; exact hge (by decide)
  rw [findR, if_pos hok] at hge ⊢
  have hv_ := relAt_get (show 0 ≤ relAt p f.rel by omega)
  obtain ⟨k, r, hk, hr, _⟩ := hv_
  have hfor := relFor_at hk hr
  rw [hk]
  have hv_ := Rl.elemA (hrl.mono hle1) hr
  obtain ⟨ad, q2, hel, _, _⟩ := hv_
  refine elem_intro hel ?_
  refine ifnd (fun h => ret_plain (isF fun k => h (hfor.1 k.2.1).symm)) (fun har => ?_)
  refine loop_intro (fun i : Nat => i ≤ f.args.length ∧ ∀ t ∈ f.args.take i, GndT t)
    (fun i => ⟨[(27, .val (.slice q.1 f.args.length q.2)), (28, .val (.int .i64 f.args.length)), (29, .val (.int .i64 i))], [], 2, μ1, Mem.nil⟩) (fun i => f.args.length - i)
    0 ⟨Nat.zero_le _, by simp⟩ (fun _ => ⟨rfl, rfl⟩) ⟨⟨rfl, rfl, rfl, trivial⟩, trivial, rfl, rfl⟩ ?_
  rintro i ⟨hi, hall⟩
  refine ifd (fun hlt => ?_) (fun hlt => ?_)
  · have hv_ := at_some (l := f.args) (i := i) (by omega)
    obtain ⟨t, ht⟩ := hv_
    have hv_ := Tm.elem (hA.mono hle1) ht
    obtain ⟨ad, pt, hel, hrt⟩ := hv_
    refine elem_intro hel ?_
    intro r7
    refine call_gives (spec_IsGround_any t hrt (D.wds_mem (by rw [Fc.d_eq] at hwf; exact hwf.2.1) _ (mem_at (at_map (f := Tm.d) ht)))) ?_
    refine ifnd (fun h => ret_plain (isF fun k => h (k.2.2 t (mem_at ht)))) (fun h => ?_)
    refine num64 (by omega) (by omega) ⟨i + 1, ⟨by omega, ?_⟩, by omega, ⟨⟨rfl, rfl, rfl, trivial⟩, trivial, rfl, rfl⟩⟩
    rw [List.take_add_one, ht, Option.toList_some]
    intro y hy
    rcases List.mem_append.1 hy with hy | hy
    · exact hall y hy
    · rw [List.mem_singleton.1 hy]; exact h
  · obtain rfl : i = f.args.length := by omega
    rw [List.take_length] at hall
    exact ret_plain (isT ⟨hok, hfor.2 har.symm, hall⟩)
theorem l19FactsOk_spec {p : Pg} {l : List Fc} {v : Value} {base : Option Addr} {cap : Nat} (hp : RepV μ p.d v) (hw : p.d.wd) (hl : Sl μ 2 base l.length (l.map Fc.d)) (hwl : D.wds (l.map Fc.d)) :
    Spec Tryz.prog 159 [v, .slice base l.length cap] μ fun r _ => r = .bool (decide (∀ f ∈ l, p.Ok ∧ FactFits p f)) := by
  have hp0 := hp
  have hv_ := Pg.inv hp
  obtain ⟨q0, rfl, hrl⟩ := hv_
  have hn := maxLen_le hl.max
  refine Spec.mk Tryz.func159 (by kernel_rfl) ?_
  intro r2
  refine loop_intro (fun z : Nat × Mem => z.1 ≤ l.length ∧ μ.Le z.2 ∧ ∀ f ∈ l.take z.1, p.Ok ∧ FactFits p f)
    (fun (i, μ') => ⟨[(2, .loc 0 r2 0), (7, .val (.slice base l.length cap)), (8, .val (.int .i64 l.length)), (9, .val (.int .i64 i))], [(0, some (.cells r2 [.val (.slice q0.1 p.rels.length q0.2)] 67))], 1, μ', Mem.nil⟩) (fun z => l.length - z.1)
    (0, μ) ⟨Nat.zero_le _, Mem.Le.refl _, by simp⟩ (fun (_, _) => ⟨rfl, rfl⟩) ⟨⟨rfl, rfl, rfl, rfl, trivial⟩, ⟨rfl, trivial⟩, rfl, rfl⟩ ?_
  rintro ⟨i, μ'⟩ ⟨hi, hle, hall⟩
  dsimp only at hi hle hall
  refine ifd (fun hlt => ?_) (fun hlt => ?_)
  · have hv_ := at_some (l := l) (i := i) (by omega)
    obtain ⟨f, hf⟩ := hv_
    have hv_ := Fc.elem (hl.mono hle) hf
    obtain ⟨ad, pf, hel, hrf⟩ := hv_
    refine elem_intro hel ?_
    intro r6
    refine call_plain (spec_FactOk_spec (hp0.mono hle) hw hrf (D.wds_mem hwl _ (mem_at (at_map (f := Fc.d) hf)))) fun v1 μ1 hle1 hR => ?_
    obtain rfl := hR
    refine ifnd (fun h => ret_plain (isF fun k => h (k f (mem_at hf)))) (fun h => ?_)
    refine num64 (by omega) (by omega) ⟨(i + 1, μ1), ⟨by dsimp only; omega, hle.trans hle1, ?_⟩, by dsimp only; omega, ⟨⟨rfl, rfl, rfl, rfl, trivial⟩, ⟨rfl, trivial⟩, rfl, rfl⟩⟩
    dsimp only
    rw [List.take_add_one, hf, Option.toList_some]
    intro y hy
    rcases List.mem_append.1 hy with hy | hy
    · exact hall y hy
    · rw [List.mem_singleton.1 hy]; exact h
  · obtain rfl : i = l.length := by omega
    rw [List.take_length] at hall
    exact ret_plain (isT hall)
end
end Go.Vx

/- Contracts: one step of groundness, the reference's side. -/
namespace Go.Vx
open Go.Proofs Classical
section
variable {μ : Mem}
theorem rel_wd {p : Pg} (hw : p.d.wd) {i : Nat} {x : Rl} (hx : p.rels[i]? = some x) : x.body.d.wd := by
  have hw2 : D.wds (p.rels.map Rl.d) := by rw [Pg.d_eq] at hw; exact hw.1
  have h := D.wds_mem hw2 _ (mem_at (at_map (f := Rl.d) hx))
  rw [Rl.d_eq] at h; exact h.2.2.2.1
end
end Go.Vx

/- Contracts: ground rules, the reference's side. -/
namespace Go.Vx
open Go.Proofs Classical
def optRu (P : List Ru → Value → Prop) (o : Option (List Ru)) (v : Value) : Prop := match o with
  | some y => ∃ tv, v = .tuple #[tv, .bool true] ∧ P y tv
  | none => v = .tuple #[.slice none 0 0, .bool false]
noncomputable def groundO (p : Pg) (l : List Tm) : Option (List Ru) := if p.Ok ∧ UnivOk l then groundR p (l.map Tm.toT) else none
theorem rulesW_prefix {U : List T} {r : Rl} {i : Nat} {c : List Gl} {w : Nat} : ∀ m, ∃ X, rulesW U r i c (w + m) = rulesW U r i c w ++ X
  | 0 => ⟨[], by simp⟩
  | m + 1 => by
    have hv_ := rulesW_prefix (U := U) (r := r) (i := i) (c := c) (w := w) m
    obtain ⟨X, hX⟩ := hv_
    exact ⟨X ++ (ruleAt U r i c (w + m)).toList, by rw [← Nat.add_assoc, rulesW_succ, hX, List.append_assoc]⟩
theorem take_more {α : Type} {A B : List α} (h : 2000 < (A.take 2001).length) : (A ++ B).take 2001 = A.take 2001 := by
  rw [List.length_take] at h
  rw [List.take_append_of_le_length (by omega)]
theorem take_all {α : Type} {A : List α} (h : (A.take 2001).length ≤ 2000) : A.length ≤ 2000 := by
  rw [List.length_take] at h; omega
theorem okG_iff {U vs : List T} {c : List Gl} : (∀ g ∈ c, okG U vs g) ↔ (∀ g ∈ c, okS vs g) ∧ (∀ f ∈ posF vs c, ∀ a ∈ f.args, a ∈ U) ∧ ∀ f ∈ negF vs c, ∀ a ∈ f.args, a ∈ U := by
  constructor
  · intro h
    refine ⟨fun g hg h9 h10 => ?_, fun f hf => ?_, fun f hf => ?_⟩
    · have := h g hg
      rwa [okG, if_neg h9, if_neg h10] at this
    · have hv_ := List.mem_map.1 hf
      obtain ⟨g, hg, rfl⟩ := hv_
      have hv_ := List.mem_filter.1 hg
      obtain ⟨hg, h9⟩ := hv_
      have h9 : g.kind = 9 := of_decide_eq_true h9
      have := h g hg
      rwa [okG, if_pos h9] at this
    · have hv_ := List.mem_map.1 hf
      obtain ⟨g, hg, rfl⟩ := hv_
      have hv_ := List.mem_filter.1 hg
      obtain ⟨hg, h10⟩ := hv_
      have h10 : g.kind = 10 := of_decide_eq_true h10
      have := h g hg
      rwa [okG, if_neg (by omega), if_pos h10] at this
  · rintro ⟨h1, h2, h3⟩ g hg
    rw [okG]
    split
    · rename_i h9
      exact h2 _ (List.mem_map.2 ⟨g, List.mem_filter.2 ⟨hg, by simpa using h9⟩, rfl⟩)
    · rename_i h9
      split
      · rename_i h10
        exact h3 _ (List.mem_map.2 ⟨g, List.mem_filter.2 ⟨hg, by simpa using h10⟩, rfl⟩)
      · rename_i h10
        exact h1 g hg h9 h10
theorem ClG.of {p : Pg} (hp : p.Ok) {i : Nat} {r : Rl} (hi : p.rels[i]? = some r) {L : List (List Gl)} (hL : r.body.cl = some L) {c : List Gl} (hc : c ∈ L) {g : Gl} (hg : g ∈ c) : ClG g := by
  have hv_ := Gl.cl_all r.body hL c hc g hg
  obtain ⟨h1, h2⟩ := hv_
  exact ⟨(hp.2 i r hi).body.all _ g h1, h2.2.2.1, h2.2.2.2⟩
theorem Gl.Sh.lens4 {g : Gl} (h : g.Sh) : g.terms.length ≤ 4 := by
  have T := h.top
  have e9 := T.ln9; have e2 := T.ln2; have e1 := T.ln1; have e0 := T.ln0; have k0 := T.k0; have k1 := T.k1
  omega
theorem callF_len {g : Gl} (h : ClG g) (vs : List T) : (callF vs g).args.length ≤ 4 := by
  show (g.terms.map _).length ≤ 4
  rw [List.length_map]
  exact h.sh.lens4
theorem posF_len {vs : List T} {c : List Gl} (h : ∀ g ∈ c, ClG g) : ∀ f ∈ posF vs c, f.args.length ≤ 4 := fun f hf => by
  have hv_ := List.mem_map.1 hf
  obtain ⟨g, hg, rfl⟩ := hv_
  exact callF_len (h g (List.mem_filter.1 hg).1) vs
theorem ClG.kid {g : Gl} (h : ClG g) (h10 : g.kind = 10) : ClG g.kid := by
  have hk := Gl.kid_at (h.sh.top.gl1 h10)
  have := h.sh.top.cl h10 _ hk
  exact ⟨h.sh.sub _ (mem_at hk), by omega, by omega⟩
theorem negF_len {vs : List T} {c : List Gl} (h : ∀ g ∈ c, ClG g) : ∀ f ∈ negF vs c, f.args.length ≤ 4 := fun f hf => by
  have hv_ := List.mem_map.1 hf
  obtain ⟨g, hg, rfl⟩ := hv_
  have hv_ := List.mem_filter.1 hg
  obtain ⟨hg, h10⟩ := hv_
  exact callF_len ((h g hg).kid (of_decide_eq_true h10)) vs
theorem posF_le {vs : List T} {c : List Gl} : (posF vs c).length ≤ c.length := by
  rw [posF, List.length_map]; exact List.length_filter_le _ _
theorem negF_le {vs : List T} {c : List Gl} : (negF vs c).length ≤ c.length := by
  rw [negF, List.length_map]; exact List.length_filter_le _ _
section
variable {μ : Mem}
theorem Ru.inv {r : Ru} {v : Value} (h : RepV μ r.rd.d v) : ∃ p : RuD.P, v = .agg #[.string r.head.rel, .slice p.1.1 r.head.args.length p.1.2, .int .i64 r.clause, .slice p.2.1.1 r.vals.length p.2.1.2, .slice p.2.2.1.1 r.pos.length p.2.2.1.2, .slice p.2.2.2.1 r.neg.length p.2.2.2.2] ∧
    Sl μ 4 p.1.1 r.head.args.length ((r.head.args.map T.tm).map Tm.d) ∧ Sl μ 4 p.2.1.1 r.vals.length ((r.vals.map T.tm).map Tm.d) ∧ Sl μ 2 p.2.2.1.1 r.pos.length ((r.pos.map F.fc).map Fc.d) ∧ Sl μ 2 p.2.2.2.1 r.neg.length ((r.neg.map F.fc).map Fc.d) := by
  have hv_ := RuD.inv h
  obtain ⟨p, rfl, h1, h2, h3, h4⟩ := hv_
  have e1 : r.rd.hargs.length = r.head.args.length := List.length_map ..
  have e2 : r.rd.vals.length = r.vals.length := List.length_map ..
  have e3 : r.rd.pos.length = r.pos.length := List.length_map ..
  have e4 : r.rd.neg.length = r.neg.length := List.length_map ..
  rw [e1] at h1; rw [e2] at h2; rw [e3] at h3; rw [e4] at h4
  rw [e1, e2, e3, e4]
  exact ⟨p, rfl, h1, h2, h3, h4⟩
theorem Ru.mkV {r : Ru} {b1 b2 b3 b4 : Option Addr} {c1 c2 c3 c4 : Nat} (h1 : RepV μ (.sl 4 ((r.head.args.map T.tm).map Tm.d)) (.slice b1 r.head.args.length c1)) (h2 : RepV μ (.sl 4 ((r.vals.map T.tm).map Tm.d)) (.slice b2 r.vals.length c2))
    (h3 : RepV μ (.sl 2 ((r.pos.map F.fc).map Fc.d)) (.slice b3 r.pos.length c3)) (h4 : RepV μ (.sl 2 ((r.neg.map F.fc).map Fc.d)) (.slice b4 r.neg.length c4)) :
    RepV μ r.rd.d (.agg #[.string r.head.rel, .slice b1 r.head.args.length c1, .int .i64 r.clause, .slice b2 r.vals.length c2, .slice b3 r.pos.length c3, .slice b4 r.neg.length c4]) := by
  rw [RuD.d_eq]
  exact ⟨_, rfl, RepS.str (RepS.cons1 h1 (RepS.int (RepS.cons1 h2 (RepS.cons1 h3 (RepS.last h4)))))⟩
set_option maxHeartbeats 8000000 in
set_option maxRecDepth 20000 in
theorem spec_GroundRules_spec {p : Pg} {l : List Tm} {v : Value} {ub : Option Addr} {uc : Nat} (hp : RepV μ p.d v) (hw : p.d.wd) (hu : Sl μ 4 ub l.length (l.map Tm.d)) (hwu : D.wds (l.map Tm.d)) :
    Spec Tryz.prog 157 [v, .slice ub l.length uc] μ fun v μ' => optRu (fun y tv => RepV μ' (.sl 6 ((y.map Ru.rd).map RuD.d)) tv) (groundO p l) v := by
  have hp0 := hp
  have hv_ := Pg.inv hp
  obtain ⟨q, rfl, hrl⟩ := hv_
  refine Spec.mk Tryz.func157 (by kernel_rfl) ?_
  intro r2
  refine call_plain (spec_ProgramOk_spec hp0 hw) fun v1 μ1 hle1 hR => ?_
  obtain rfl := hR
  refine ifnd (fun h => ret_plain (by rw [groundO, if_neg fun k => h k.1]; rfl)) (fun hok => ?_)
  refine call_gives (spec_UniverseOk_spec (hu.mono hle1) hwu) ?_
  refine ifnd (fun h => ret_plain (by rw [groundO, if_neg fun k => h k.2]; rfl)) (fun huok => ?_)
  obtain ⟨U, rfl, hUg, hUl⟩ := huok.lift
  have hgo : groundO p (U.map T.tm) = groundR p U := by rw [groundO, if_pos ⟨hok, huok⟩, toTs_tm]
  rw [hgo]
  have hU1 : 1 ≤ U.length := by rw [hUl]; exact huok.pos
  have hU8 : U.length ≤ 8 := by rw [hUl]; exact huok.max
  rw [← hUl] at hu ⊢
  clear hgo hUl huok hUg hwu
  have hn := hok.1
  intro r27
  refine loop_intro (fun z : Nat × Option Nat × Nat × List Value × Mem => z.1 ≤ p.rels.length ∧ μ1.Le z.2.2.2.2 ∧ Rows z.2.2.2.2 6 (((((p.rels.take z.1).flatMap (rulesR U)).take 2001).map Ru.rd).map RuD.d) z.2.2.2.1 ∧ ∀ r ∈ p.rels.take z.1, r.body.cl ≠ none ∧ U.length ^ (r.arity + r.locals).toNat ≤ 4096)
    (fun (i, b, c, ys, μ') => ⟨[(1, .val (.slice ub U.length uc)), (6, .row 1 b ys.length c), (29, .val (.slice q.1 p.rels.length q.2)), (30, .val (.int .i64 p.rels.length)), (31, .val (.int .i64 i))], [(1, some (.row b c 242 6 ys))], 2, μ', Mem.nil⟩) (fun z => p.rels.length - z.1)
    (0, some r27, 0, [], μ1) ⟨Nat.zero_le _, Mem.Le.refl _, .nil, by simp⟩ (fun (_, _, _, _, _) => ⟨rfl, rfl⟩) ⟨⟨rfl, rfl, rfl, rfl, rfl, trivial⟩, ⟨rfl, trivial⟩, rfl, rfl⟩ ?_
  rintro ⟨i, b, c, ys, μ'⟩ ⟨hi, hle, hrows, hways⟩
  dsimp only at hi hle hrows hways
  have hyl := hrows.len
  simp only [List.length_map] at hyl
  refine ifd (fun hlt => ?_) (fun hlt => ?_)
  rotate_left
  · obtain rfl : i = p.rels.length := by omega
    rw [List.take_length] at hrows hways hyl
    have hall : (p.rels.flatMap (rulesR U)) = rulesP p U := rfl
    rw [hall] at hrows hyl
    refine ifd (fun hbig => ret_plain ?_) (fun hbig => ?_)
    · rw [groundR, if_neg fun k => by have := k.2; rw [List.length_take] at hyl; omega]; rfl
    · have hle2 : (rulesP p U).length ≤ 2000 := take_all (by omega)
      rw [List.take_of_length_le (by omega)] at hrows
      rw [groundR, if_pos ⟨hways, hle2⟩]
      refine ret_frz [1] fun μ2 hle2 hno hat => .inl ⟨_, rfl, ?_⟩
      exact Rows.sl hat (hrows.mono hle2) (Nat.le_trans (m := 100000) (by rw [List.length_take] at hyl; omega) (by decide))
  have hv_ := at_some (l := p.rels) (i := i) (by omega)
  obtain ⟨r, hr⟩ := hv_
  have hv_ := Rl.elemA ((hrl.mono hle1).mono hle) hr
  obtain ⟨ad, q2, hel, hrv, hb⟩ := hv_
  have hb : RepV μ' r.body.d (.agg (r.body.cs q2).toArray) := hb
  have hrok := hok.2 i r hr
  have hv_ := Int.eq_ofNat_of_zero_le hrok.ar0
  obtain ⟨a, ha⟩ := hv_
  have hv_ := Int.eq_ofNat_of_zero_le hrok.lo0
  obtain ⟨lo, hlo⟩ := hv_
  have har4 := hrok.ar4
  have hlo8 := hrok.lo8
  have hnn : (r.arity + r.locals).toNat = a + lo := by omega
  have hsz := hrok.size
  refine elem_intro hel ?_
  intro r8 r35
  refine loop_intro (fun z : Nat × Option Nat × Nat => z.1 ≤ a + lo)
    (fun (n, vb, vc) => ⟨[(1, .val (.slice ub U.length uc)), (6, .row 1 b ys.length c), (8, .loc 2 r8 0), (9, .row 3 vb (ints (rngI n)).length vc), (10, .val (.int .i64 n)), (29, .val (.slice q.1 p.rels.length q.2)), (30, .val (.int .i64 p.rels.length)), (31, .val (.int .i64 i))], [(1, some (.row b c 242 6 ys)), (2, some (.cells r8 [.val (.string r.name), .val (.int .i64 r.arity), .val (.int .i64 r.locals), .val (.int .i64 r.body.kind), .val (.string r.body.name), .val (.slice q2.1.1 r.body.terms.length q2.1.2), .val (.slice q2.2.1 r.body.goals.length q2.2.2)] 143)), (3, some (.row vb vc 3 1 (ints (rngI n))))], 4, μ', Mem.nil⟩) (fun z => a + lo - z.1)
    (0, some r35, 0) (Nat.zero_le _) (fun (_, _, _) => ⟨rfl, rfl⟩) ⟨⟨rfl, rfl, rfl, rfl, rfl, rfl, rfl, rfl, trivial⟩, ⟨rfl, rfl, rfl, trivial⟩, rfl, rfl⟩ ?_
  rintro ⟨n, vb, vc⟩ hn2
  dsimp only at hn2
  have hil : (ints (rngI n)).length = n := by rw [ints, List.length_map, rngI_len]
  refine num_eq (x := ((a + lo : Nat) : Int)) (by rw [wrap64 (by omega) (by omega)]; omega) ?_
  refine ifd (fun h2 => ?_) (fun h2 => ?_)
  · intro r47
    refine grow_intro ?_ ?_ fun b' c' _ => ?_
    · show (_ + 1) * 8 ≤ _; omega
    · exact Nat.le_trans (m := 1000) (show _ + 1 ≤ _ by omega) (by decide)
    have ez : ints (rngI (n + 1)) = ints (rngI n) ++ [.int .i64 (n : Int)] := by simp [ints, rngI, List.range_succ]
    refine num64 (by omega) (by omega) ⟨(n + 1, b', c'), by dsimp only; omega, by dsimp only; omega, ?_⟩
    dsimp only
    rw [ez]
    exact ⟨⟨rfl, rfl, rfl, by rw [List.length_append]; rfl, rfl, rfl, rfl, rfl, trivial⟩, ⟨rfl, rfl, rfl, trivial⟩, rfl, rfl⟩
  obtain rfl : n = a + lo := by omega
  refine call_plain (ClausesOf_spec hb (rel_wd hw hr) ⟨hrok.body, by omega⟩) fun v3 μ3 hle3 hR3 => ?_
  have hwsp := l08Ways_spec (μ := μ3) (size := U.length) (n := (ints (rngI (a + lo))).length) (most := 4096) hU1 hU8 (by omega) (by omega) (by omega)
  cases hL : r.body.cl with
  | none =>
    rw [hL] at hR3
    obtain rfl := hR3
    refine call_plain hwsp fun v4 μ4 hle4 hR4 => ?_
    obtain ⟨⟨W, rfl, _, _⟩, rfl⟩ := hR4
    refine if_intro (fun _ => ret_plain ?_) (fun h => nomatch h)
    rw [groundR, if_neg fun k => (k.1 r (mem_at hr)).1 hL]; rfl
  | some L =>
  rw [hL] at hR3
  obtain ⟨tv, rfl, hLr⟩ := hR3
  obtain ⟨pv, rfl⟩ := hLr.inv
  refine call_plain hwsp fun v4 μ4 hle4 hR4 => ?_
  obtain ⟨⟨W, rfl, hW1, hW2⟩, e4⟩ := hR4
  obtain rfl := e4.symm
  rw [hil] at hW1 hW2
  refine if_intro (fun h => nomatch h) (fun _ => ?_)
  refine ifd (fun hbig => ret_plain ?_) (fun hsmall => ?_)
  · rw [groundR, if_neg fun k => by
      have h1 := (k.1 r (mem_at hr)).2
      rw [hnn] at h1
      have := hW1 h1
      omega]; rfl
  have hWle : U.length ^ (a + lo) ≤ 4096 := Nat.le_of_not_lt fun h => by have := hW2 h; omega
  have hv_ := hW1 hWle
  obtain rfl := hv_
  have hLs := (Cls.sl hLr).1
  have hLb := Gl.cl_bnd r.body hL
  generalize hpre : (p.rels.take i).flatMap (rulesR U) = pre at *
  refine loop_frz (fun z : Nat × Option Nat × Nat × List Value × Mem × (Option Nat × Nat) => z.1 ≤ L.length ∧ μ3.Le z.2.2.2.2.1 ∧ Sl z.2.2.2.2.1 1 (z.2.2.2.2.2.1.map fun r => (⟨r, 0, none⟩ : Addr)) (a + lo) ((rngI (a + lo)).map D.i) ∧ Rows z.2.2.2.2.1 6 ((((pre ++ rulesC U r L z.1).take 2001).map Ru.rd).map RuD.d) z.2.2.2.1)
    (fun (k, b, c, ys, μ', vb, vc) => ⟨[(1, .val (.slice ub U.length uc)), (6, .row 1 b ys.length c), (8, .loc 2 r8 0), (9, .val (.slice (vb.map fun r => (⟨r, 0, none⟩ : Addr)) (ints (rngI (a + lo))).length vc)), (13, .val (.int .i64 ((U.length ^ (a + lo) : Nat) : Int))), (29, .val (.slice q.1 p.rels.length q.2)), (30, .val (.int .i64 p.rels.length)), (31, .val (.int .i64 i)), (66, .val (.slice pv.1 L.length pv.2)), (67, .val (.int .i64 L.length)), (68, .val (.int .i64 k))], [(1, some (.row b c 242 6 ys)), (2, some (.cells r8 [.val (.string r.name), .val (.int .i64 r.arity), .val (.int .i64 r.locals), .val (.int .i64 r.body.kind), .val (.string r.body.name), .val (.slice q2.1.1 r.body.terms.length q2.1.2), .val (.slice q2.2.1 r.body.goals.length q2.2.2)] 143))], 4, μ', Mem.nil⟩) (fun z => L.length - z.1) [3]
    (fun (_, _, _, _, _, _, _) => ⟨rfl, rfl⟩) ?_ ?_
  · intro μf hlef hnof hatf
    have hsl := Ints.sl hatf (Nat.le_trans (m := 1000) (by rw [rngI_len]; omega) (by decide))
    rw [hil] at hsl
    have hv_ := Rep.sl hsl
    obtain ⟨bz, cz, ez, hzs⟩ := hv_
    have hv_ := Value.slice.inj ez
    obtain ⟨e1, _, _⟩ := hv_
    rw [← e1, List.length_map, rngI_len] at hzs
    refine ⟨(0, b, c, ys, μf, vb, vc), ⟨Nat.zero_le _, hlef, hzs, ?_⟩, ⟨⟨rfl, rfl, rfl, rfl, rfl, rfl, rfl, rfl, rfl, rfl, rfl, trivial⟩, ⟨rfl, rfl, trivial⟩, rfl, rfl⟩⟩
    have e0 : pre ++ rulesC U r L 0 = pre := by simp [rulesC]
    dsimp only
    rw [e0]
    exact (hrows.mono hle3).mono hlef
  clear hrows hyl hil
  rintro ⟨k, b, c, ys, μ5, vb, vc⟩ ⟨hk, hle5, hvs, hrows⟩
  dsimp only at hk hle5 hvs hrows
  have hil : (ints (rngI (a + lo))).length = a + lo := by rw [ints, List.length_map, rngI_len]
  refine ifd (fun hltk => ?_) (fun hltk => ?_)
  rotate_left
  · obtain rfl : k = L.length := by omega
    refine num64 (by omega) (by omega) ⟨(i + 1, b, c, ys, μ5), ⟨by dsimp only; omega, (hle.trans hle3).trans hle5, ?_, ?_⟩, by dsimp only; omega, ⟨⟨rfl, rfl, rfl, rfl, rfl, trivial⟩, ⟨rfl, trivial⟩, rfl, rfl⟩⟩
    · dsimp only
      rw [rulesP_take hr, hpre]
      have e : rulesR U r = rulesC U r L L.length := by rw [rulesR, hL]
      rw [e]; exact hrows
    · dsimp only
      intro x hx
      rw [List.take_add_one, hr, Option.toList_some] at hx
      rcases List.mem_append.1 hx with hx | hx
      · exact hways x hx
      · rw [List.mem_singleton.1 hx, hL, hnn]
        exact ⟨(fun h => nomatch h), hWle⟩
  have hv_ := at_some (l := L) (i := k) (by omega)
  obtain ⟨cl, hcl⟩ := hv_
  have hv_ := cls_elem (hLs.mono hle5) hcl
  obtain ⟨adc, pc, helc, hrc⟩ := hv_
  have hcs : Sl μ5 4 pc.1 cl.length (cl.map Gl.d) := by
    have hv_ := Rep.sl (xs := cl.map Gl.d) hrc
    obtain ⟨b', c', e1, hs⟩ := hv_
    have hv_ := Value.slice.inj e1
    obtain ⟨rfl, _, _⟩ := hv_
    simpa using hs
  have hcb := hLb.1 cl (mem_at hcl)
  have hG : ∀ g ∈ cl, ClG g := fun g hg => ClG.of hok hr hL (mem_at hcl) hg
  refine elem_intro helc ?_
  refine loop_intro (fun z : Nat × Option Nat × Nat × List Value × Mem => z.1 ≤ U.length ^ (a + lo) ∧ μ5.Le z.2.2.2.2 ∧ Rows z.2.2.2.2 6 ((((pre ++ rulesC U r L k ++ rulesW U r k cl z.1).take 2001).map Ru.rd).map RuD.d) z.2.2.2.1)
    (fun (w, b, c, ys, μ') => ⟨[(1, .val (.slice ub U.length uc)), (6, .row 1 b ys.length c), (8, .loc 2 r8 0), (9, .val (.slice (vb.map fun r => (⟨r, 0, none⟩ : Addr)) (ints (rngI (a + lo))).length vc)), (13, .val (.int .i64 ((U.length ^ (a + lo) : Nat) : Int))), (14, .val (.int .i64 k)), (15, .val (.slice pc.1 cl.length pc.2)), (16, .val (.int .i64 (w : Nat))), (29, .val (.slice q.1 p.rels.length q.2)), (30, .val (.int .i64 p.rels.length)), (31, .val (.int .i64 i)), (66, .val (.slice pv.1 L.length pv.2)), (67, .val (.int .i64 L.length)), (68, .val (.int .i64 k))], [(1, some (.row b c 242 6 ys)), (2, some (.cells r8 [.val (.string r.name), .val (.int .i64 r.arity), .val (.int .i64 r.locals), .val (.int .i64 r.body.kind), .val (.string r.body.name), .val (.slice q2.1.1 r.body.terms.length q2.1.2), .val (.slice q2.2.1 r.body.goals.length q2.2.2)] 143))], 4, μ', Mem.nil⟩) (fun z => U.length ^ (a + lo) - z.1)
    (0, b, c, ys, μ5) ⟨Nat.zero_le _, Mem.Le.refl _, by simpa [rulesW] using hrows⟩ (fun (_, _, _, _, _) => ⟨rfl, rfl⟩) ⟨⟨rfl, rfl, rfl, rfl, rfl, rfl, rfl, rfl, rfl, rfl, rfl, rfl, rfl, rfl, trivial⟩, ⟨rfl, rfl, trivial⟩, rfl, rfl⟩ ?_
  clear hrows
  rintro ⟨w, b, c, ys, μ6⟩ ⟨hw6, hle6, hrows⟩
  dsimp only at hw6 hle6 hrows
  have hyl := hrows.len
  simp only [List.length_map] at hyl
  -- the clause is done
  have done : (pre ++ rulesC U r L k ++ rulesW U r k cl w).take 2001 = (pre ++ rulesC U r L (k + 1)).take 2001 → ∃ i' : Nat × Option Nat × Nat × List Value × Mem × (Option Nat × Nat), i' = (k + 1, b, c, ys, μ6, vb, vc) ∧ (k + 1 ≤ L.length ∧ μ3.Le μ6 ∧ Sl μ6 1 (vb.map fun r => (⟨r, 0, none⟩ : Addr)) (a + lo) ((rngI (a + lo)).map D.i) ∧ Rows μ6 6 ((((pre ++ rulesC U r L (k + 1)).take 2001).map Ru.rd).map RuD.d) ys) := fun e =>
    ⟨_, rfl, by omega, hle5.trans hle6, hvs.mono hle6, by rw [← e]; exact hrows⟩
  have hsucc := rulesC_succ (U := U) (r := r) hcl
  rw [hnn] at hsucc
  refine ifd (fun hltw => ?_) (fun hltw => ?_)
  rotate_left
  · obtain rfl : w = U.length ^ (a + lo) := by omega
    have hv_ := done (by rw [hsucc, List.append_assoc])
    obtain ⟨i', rfl, hI⟩ := hv_
    exact num64 (by omega) (by omega) ⟨[], (k + 1, b, c, ys, μ6, vb, vc), hI, by dsimp only; omega, ⟨⟨rfl, rfl, rfl, rfl, rfl, rfl, rfl, rfl, rfl, rfl, rfl, trivial⟩, ⟨rfl, rfl, trivial⟩, rfl, rfl⟩⟩
  refine ifd (fun hroom => ?_) (fun hroom => ?_)
  rotate_left
  · have hv_ := rulesW_prefix (U := U) (r := r) (i := k) (c := cl) (w := w) (U.length ^ (a + lo) - w)
    obtain ⟨X, hX⟩ := hv_
    rw [show w + (U.length ^ (a + lo) - w) = U.length ^ (a + lo) by omega] at hX
    obtain ⟨i', rfl, hI⟩ := done (by
      rw [hsucc, hX, ← List.append_assoc, ← List.append_assoc]
      exact (take_more (by omega)).symm)
    exact num64 (by omega) (by omega) ⟨[], (k + 1, b, c, ys, μ6, vb, vc), hI, by dsimp only; omega, ⟨⟨rfl, rfl, rfl, rfl, rfl, rfl, rfl, rfl, rfl, rfl, rfl, trivial⟩, ⟨rfl, rfl, trivial⟩, rfl, rfl⟩⟩
  have hA := take_all (A := pre ++ rulesC U r L k ++ rulesW U r k cl w) (by omega)
  have hA1 : (pre ++ rulesC U r L k ++ rulesW U r k cl w).take 2001 = pre ++ rulesC U r L k ++ rulesW U r k cl w := List.take_of_length_le (by omega)
  rw [hA1] at hrows hyl
  have hnext := rulesW_succ U r k cl w
  have hu6 := (((hu.mono hle1).mono hle).mono hle3).mono (hle5.trans hle6)
  have hvals := l08Values_spec (uc := uc) (vc := vc) (n := a + lo) (w := w) hu6 (by omega) hU8 (hvs.mono hle6) (by omega) (by omega)
  rw [← hil] at hvals
  refine call_plain hvals fun v7 μ7 hle7 hR7 => ?_
  rw [hil] at hR7
  have hv_ := Rep.sl hR7
  obtain ⟨b7, c7, e7, hs7⟩ := hv_
  simp only [List.length_map, valsB_len] at e7 hs7
  subst e7
  have hdl := digs_len U (a + lo) w
  have hrv7 := (hrv.mono hle3).mono ((hle5.trans hle6).trans hle7)
  refine call_plain (l18Rule_spec (i := k) (vs := digs U (a + lo) w) (a := a) hrv7 ha (by omega) (by omega) ((hcs.mono hle6).mono hle7) (by omega) hG hs7) fun v8 μ8 hle8 hR8 => ?_
  obtain ⟨ru, rv, rfl, hrr, hru⟩ := hR8
  have hv_ := Ru.inv hrr
  obtain ⟨pr, rfl, h81, h82, h83, h84⟩ := hv_
  intro r17
  have hu8 := (hu6.mono hle7).mono hle8
  have hmono := (hle6.trans hle7).trans hle8
  -- this one makes no rule
  have skip : ¬ (∀ g ∈ cl, okG U (digs U (a + lo) w) g) → Rows μ8 6 ((((pre ++ rulesC U r L k ++ rulesW U r k cl (w + 1)).take 2001).map Ru.rd).map RuD.d) ys := fun h => by
    rw [hnext, ruleAt, hnn, if_neg h, Option.toList_none, List.append_nil, hA1]
    exact (hrows.mono hle7).mono hle8
  refine ifd (fun hS => ?_) (fun hS => ?_)
  rotate_left
  · exact num64 (by omega) (by omega) ⟨(w + 1, b, c, ys, μ8), ⟨by dsimp only; omega, hmono, skip fun k => hS (okG_iff.1 k).1⟩, by dsimp only; omega, ⟨⟨rfl, rfl, rfl, rfl, rfl, rfl, rfl, rfl, rfl, rfl, rfl, rfl, rfl, rfl, trivial⟩, ⟨rfl, rfl, trivial⟩, rfl, rfl⟩⟩
  have hv_ := hru hS
  obtain rfl := hv_
  refine call_gives (l18Inside_spec hu8 h83) ?_
  refine ifd (fun hP => ?_) (fun hP => ?_)
  rotate_left
  · exact num64 (by omega) (by omega) ⟨(w + 1, b, c, ys, μ8), ⟨by dsimp only; omega, hmono, skip fun k => hP (okG_iff.1 k).2.1⟩, by dsimp only; omega, ⟨⟨rfl, rfl, rfl, rfl, rfl, rfl, rfl, rfl, rfl, rfl, rfl, rfl, rfl, rfl, trivial⟩, ⟨rfl, rfl, trivial⟩, rfl, rfl⟩⟩
  refine call_gives (l18Inside_spec hu8 h84) ?_
  refine ifd (fun hN => ?_) (fun hN => ?_)
  rotate_left
  · exact num64 (by omega) (by omega) ⟨(w + 1, b, c, ys, μ8), ⟨by dsimp only; omega, hmono, skip fun k => hN (okG_iff.1 k).2.2⟩, by dsimp only; omega, ⟨⟨rfl, rfl, rfl, rfl, rfl, rfl, rfl, rfl, rfl, rfl, rfl, rfl, rfl, rfl, trivial⟩, ⟨rfl, rfl, trivial⟩, rfl, rfl⟩⟩
  have hOk := okG_iff.2 ⟨hS, hP, hN⟩
  have lens : (ruleOf r k cl (digs U (a + lo) w)).vals.length ≤ 12 ∧ (ruleOf r k cl (digs U (a + lo) w)).head.args.length ≤ 12 ∧ (ruleOf r k cl (digs U (a + lo) w)).pos.length ≤ 1000 ∧ (ruleOf r k cl (digs U (a + lo) w)).neg.length ≤ 1000 := by
    refine ⟨by show (digs U (a + lo) w).length ≤ 12; omega, by show ((digs U (a + lo) w).take _).length ≤ 12; rw [List.length_take]; omega, ?_, ?_⟩
    · have := posF_le (vs := digs U (a + lo) w) (c := cl)
      show (posF _ cl).length ≤ 1000; omega
    · have := negF_le (vs := digs U (a + lo) w) (c := cl)
      show (negF _ cl).length ≤ 1000; omega
  have lpos : ∀ f ∈ (ruleOf r k cl (digs U (a + lo) w)).pos, f.args.length ≤ 4 := posF_len hG
  have lneg : ∀ f ∈ (ruleOf r k cl (digs U (a + lo) w)).neg, f.args.length ≤ 4 := negF_len hG
  have hat1 : ruleAt U r k cl w = some (ruleOf r k cl (digs U (a + lo) w)) := by rw [ruleAt, hnn, if_pos hOk]
  generalize ruleOf r k cl (digs U (a + lo) w) = R at *
  refine call_plain (l02CopyAll_spec h82 (by omega)) fun v9 μ9 hle9 hR9 => ?_
  have hv_ := Rep.sl hR9
  obtain ⟨b9, c9, e, hs9⟩ := hv_
  simp only [List.length_map, valsB_len] at e hs9
  subst e
  refine call_plain (l02CopyAll_spec (h81.mono hle9) (by omega)) fun v10 μ10 hle10 hR10 => ?_
  have hv_ := Rep.sl hR10
  obtain ⟨b10, c10, e, hs10⟩ := hv_
  simp only [List.length_map, valsB_len] at e hs10
  subst e
  refine call_plain (l18Copy_spec ((h83.mono hle9).mono hle10) (by omega) (fun f hf => by have := lpos f hf; omega)) fun v11 μ11 hle11 hR11 => ?_
  have hv_ := Rep.sl hR11
  obtain ⟨b11, c11, e, hs11⟩ := hv_
  simp only [List.length_map, valsB_len] at e hs11
  subst e
  refine call_plain (l18Copy_spec (((h84.mono hle9).mono hle10).mono hle11) (by omega) (fun f hf => by have := lneg f hf; omega)) fun v12 μ12 hle12 hR12 => ?_
  have hv_ := Rep.sl hR12
  obtain ⟨b12, c12, e, hs12⟩ := hv_
  simp only [List.length_map, valsB_len] at e hs12
  subst e
  intro r127
  refine grow_intro ?_ ?_ fun b' c' _ => ?_
  · show (ys.length + 1) * 120 ≤ _; omega
  · exact Nat.le_trans (m := 100000) (show ys.length + 1 ≤ _ by omega) (by decide)
  refine num64 (by omega) (by omega) ⟨(w + 1, b', c', _, μ12), ⟨by dsimp only; omega, hmono.trans (((hle9.trans hle10).trans hle11).trans hle12), ?_⟩, by dsimp only; omega, ⟨⟨rfl, rfl, rfl, rfl, rfl, rfl, rfl, rfl, rfl, rfl, rfl, rfl, rfl, rfl, trivial⟩, ⟨rfl, rfl, trivial⟩, rfl, rfl⟩⟩
  dsimp only
  have hlen2 : (pre ++ rulesC U r L k ++ rulesW U r k cl w ++ [R]).length ≤ 2001 := by
    rw [List.length_append]
    simp only [List.length_singleton]
    omega
  rw [hnext, hat1, Option.toList_some, ← List.append_assoc, List.take_of_length_le hlen2, List.map_append, List.map_append]
  refine ((((((hrows.mono hle7).mono hle8).mono hle9).mono hle10).mono hle11).mono hle12).append (Rows.one ?_ (RuD.d_n _))
  exact Ru.mkV (((hR10.mono hle11).mono hle12)) (((hR9.mono hle10).mono hle11).mono hle12) (hR11.mono hle12) hR12
end
end Go.Vx

/- Contracts: variables mapped by a closure that may turn owned memory. -/
namespace Go.Vx
open Go.Proofs Classical
section
variable {μ : Mem}
theorem pairR_spec {a b : T} {va vb : Value} (ha : RepV μ a.tm.d va) (hb : RepV μ b.tm.d vb) : Spec Tryz.prog 290 [va, vb] μ fun v μ' => RepV μ' (T.pair a b).tm.d v := by
  have hv_ := Tm.invV ha
  obtain ⟨p, rfl⟩ := hv_
  have hv_ := Tm.invV hb
  obtain ⟨q, rfl⟩ := hv_
  refine Spec.mk Tryz.func290 (by kernel_rfl) ?_
  intro r1 r2 r3 r4
  refine ret_frz [3] fun μ' hle hno hrow => .inl ?_
  rw [T.tm, Tm.d_mk]
  exact ⟨_, rfl, RepS.int (RepS.int (RepS.str (RepS.last (Rows.sl hrow (.cons (ha.mono hle) (Tm.d_n _) (.cons (hb.mono hle) (Tm.d_n _) .nil)) (show 2 ≤ maxLen by decide)))))⟩
/-- Variables mapped. -/
theorem mapVars_rel {k : FuncId} {caps : List Value} {f : Int → Option T} (J : Mem → Mem → Prop) (hJ : ∀ {μ' μ'' h' : Mem}, μ'.Le μ'' → J μ' h' → J μ'' h') : ∀ (x : T) {μ h : Mem} {v : Value},
    (∀ μ' h', μ.Le μ' → J μ' h' → ∀ n ∈ x.vars, SpecH Tryz.prog k (.int .i64 n :: caps) μ' h' fun v μ'' h'' => optV (fun y tv => RepV μ'' y.tm.d tv) (f n) v ∧ J μ'' h'') → J μ h → RepV μ x.tm.d v →
    SpecH Tryz.prog 208 [v, .func (.func k) #[] caps.toArray] μ h fun v μ' h' => RepV μ' (x.subst f).tm.d v ∧ J μ' h' := by
  intro x
  induction x with
  | var n =>
    intro μ h v hk hj hv
    have hv_ := Tm.invV hv
    obtain ⟨p, rfl⟩ := hv_
    refine SpecH.mk [] Tryz.func208 (by kernel_rfl) ?_
    intro r1 r2
    refine ifd (fun _ => ?_) (fun h => absurd rfl h)
    refine call_own (hk μ h (Mem.Le.refl μ) hj n (by simp [T.vars])) fun v' μ' h' hle hap hR => ?_
    obtain ⟨hR, hj'⟩ := hR
    simp only [T.subst]
    cases hs : f n with
    | some y =>
      rw [hs] at hR
      obtain ⟨tv, rfl, htv⟩ := hR
      have hv_ := Tm.invV htv
      obtain ⟨q, rfl⟩ := hv_
      intro r3
      refine if_intro (fun _ => ?_) (fun h => nomatch h)
      refine call_plain (copyTerm_spec y htv) fun v2 μ2 hle2 hR2 => ?_
      have hv_ := Tm.invV hR2.rep
      obtain ⟨q2, rfl⟩ := hv_
      exact ret_plain ⟨hR2.rep, hJ hle2 hj'⟩
    | none =>
      rw [hs] at hR
      obtain rfl := hR
      intro r3
      refine if_intro (fun h => nomatch h) (fun _ => ?_)
      exact ret_plain ⟨hv.mono hle, hj'⟩
  | pair a b iha ihb =>
    intro μ h v hk hj hv
    have hv_ := Tm.inv hv
    obtain ⟨base', cap', rfl, hsa⟩ := hv_
    have hv_ := T.parts hsa
    obtain ⟨ad, ad', p, p', h1, h2, hra, hrb⟩ := hv_
    refine SpecH.mk [] Tryz.func208 (by kernel_rfl) ?_
    intro r1 r2
    refine ifd (fun h => absurd h (by simp)) (fun _ => ?_)
    refine ifd (fun _ => ?_) (fun h => absurd rfl h)
    refine elem_intro h1 ?_
    refine elem_intro h2 ?_
    refine call_own (iha (fun μ' h' g1 g2 n hn => hk μ' h' g1 g2 n (by simp [T.vars, hn])) hj hra) fun v1 μ1 h1' hle1 hap1 hR1 => ?_
    obtain ⟨hR1, hj1⟩ := hR1
    refine call_own (ihb (fun μ' h' g1 g2 n hn => hk μ' h' (hle1.trans g1) g2 n (by simp [T.vars, hn])) hj1 (hrb.mono hle1)) fun v2 μ2 h2' hle2 hap2 hR2 => ?_
    obtain ⟨hR2, hj2⟩ := hR2
    refine call_plain (pairR_spec (hR1.mono hle2) hR2) fun v3 μ3 hle3 hR3 => ?_
    have hv_ := Tm.invV hR3
    obtain ⟨q, rfl⟩ := hv_
    exact ret_plain ⟨hR3, hJ hle3 hj2⟩
  | _ =>
    intro μ h v hk hj hv
    have hv_ := Tm.invV hv
    obtain ⟨p, rfl⟩ := hv_
    refine SpecH.mk [] Tryz.func208 (by kernel_rfl) ?_
    intro r1 r2
    refine ifd (fun h => absurd h (by simp [T.tm, Tm.kind])) (fun _ => ?_)
    refine ifd (fun h => absurd h (by simp [T.tm, Tm.kind])) (fun _ => ?_)
    exact ret_plain ⟨hv, hj⟩
end
end Go.Vx

/- Marks as keys of a map. -/
namespace Go.Vx
open Go.Proofs Classical
def MkKey (v : Value) : Prop := ∃ m : Mk, GoodM m ∧ v = m.v
theorem Mk.v_inj {a b : Mk} (h : a.v = b.v) : a = b := by
  cases a; cases b
  simp only [Mk.v, Value.agg.injEq] at h
  simpa using h
theorem mk_law : WideMaps.KeyLaw Tryz.prog 116 := deep_law (m := 3) (by decide) (by kernel_rfl) (by kernel_rfl) (by kernel_rfl)
theorem mk_cells : Tryz.prog.cellsOf 116 = 2 := by kernel_rfl
theorem mk_cells1 : Tryz.prog.cellsOf 3 = 1 := by kernel_rfl
theorem mk_cells2 : Tryz.prog.cellsOf 9 = 1 := by kernel_rfl
theorem mk_ktype : Tryz.prog.keyType 116 = true := by kernel_rfl
theorem mk_size : Nat.ble 1 Tryz.prog.types.size = true := by kernel_rfl
theorem mk_keyOf {m : Mk} (h : GoodM m) : ∃ l, keyOf Tryz.prog 116 m.v = some l := by
  have hu := Tryz.underlying116
  have hi := Tryz.underlying3
  have hs := Tryz.underlying9
  have h2 : m.v.formed Tryz.prog 116 = true := by
    simp only [Mk.v, Value.formed, hu, mk_cells]
    rfl
  have hk : ∃ L, Tryz.prog.keyLits (Tryz.prog.types.size + 1) 116 m.v.cells.toList = some L := by
    obtain ⟨n, hn⟩ : ∃ n, Tryz.prog.types.size + 1 = n + 2 := ⟨Tryz.prog.types.size - 1, by have := Nat.le_of_ble_eq_true mk_size; omega⟩
    rw [hn]
    have hw : (Lit.int .i64 m.var).wf = true := by
      have := h.1
      simp [Lit.wf, IntKind.min, IntKind.max]
      exact ⟨decide_eq_true (show (-9223372036854775808 : Int) ≤ m.var by omega), decide_eq_true (show m.var ≤ (9223372036854775807 : Int) by omega)⟩
    have ht : m.tag.size ≤ maxLen := Nat.le_trans h.2.2.1 (by decide)
    simp only [Program.keyLits, hu, hi, hs, mk_cells, mk_cells1, mk_cells2, Mk.v, Value.cells]
    simp [hw, ht, mk_cells1, mk_cells2, hi, hs]
  obtain ⟨L, hL⟩ := hk
  refine ⟨.string (keyBytes L), ?_⟩
  unfold keyOf
  rw [hu]
  dsimp only
  rw [mk_ktype, h2, hL]
  rfl
end Go.Vx

/- Contracts: a mark asked of a term, the program's side: a map of marks, sorted. -/
namespace Go.Vx
open Go.Proofs Classical
open Go.Sort
noncomputable instance : Inhabited Mk := ⟨⟨0, ⟨#[]⟩⟩⟩
section
variable {α : Type} [Inhabited α]
end
section
variable {μ : Mem}
theorem hasSymbol_spec (s : ByteArray) : ∀ (x : T) {v : Value}, RepV μ x.tm.d v → Gives Tryz.prog 92 [v, .string s] μ (.bool (decide (x.hasSym s))) :=
  T.ind fun x ih v hv => by
    have hv_ := T.inv hv
    obtain ⟨b1, c1, rfl, hs1⟩ := hv_
    refine Spec.mk Tryz.func92 (by kernel_rfl) ?_
    intro r
    refine ifd (fun h4 => ?_) (fun h4 => ?_)
    · have hv_ := T.kind4 h4
      obtain ⟨a, b, rfl⟩ := hv_
      have hv_ := T.arg hs1 (i := 0) rfl
      obtain ⟨ad1, p1, e1, g1⟩ := hv_
      have hv_ := T.arg hs1 (i := 1) rfl
      obtain ⟨ad3, p3, e3, g3⟩ := hv_
      refine elem_intro e1 (call_gives (ih a (by simp [T.args]) g1) ?_)
      refine ifd (fun h => ret_gives (isT (.inl h)) rfl) (fun h => ?_)
      refine elem_intro e3 (call_gives (ih b (by simp [T.args]) g3) (ret_gives ?_ rfl))
      congr 1
      rw [Bool.eq_iff_iff, decide_eq_true_eq, decide_eq_true_eq]
      exact ⟨.inr, fun k => k.elim (fun k => absurd k h) id⟩
    · have hno : ¬ ∃ y ∈ x.args, y.hasSym s := fun ⟨y, hy, _⟩ => by
        cases x <;> first | (simp [T.args] at hy; done) | exact h4 rfl
      refine ifd (fun h2 => ret_gives ?_ rfl) (fun h2 => ret_gives (isF fun k => ((T.hasSym_args s x).1 k).elim (fun k => h2 k.1) hno) rfl)
      congr 1
      rw [Bool.eq_iff_iff, decide_eq_true_eq, decide_eq_true_eq]
      exact ⟨fun k => (T.hasSym_args s x).2 (.inl ⟨h2, k⟩), fun k => ((T.hasSym_args s x).1 k).elim (fun k => k.2) fun k => absurd k hno⟩
def MksInv (rm rt : Nat) (tag : ByteArray) (s : List Mk) (h : Mem) : Prop := ∃ r l, h rm = some (.cells #[.map (some r)] 129 (0, 0)) ∧ h rt = some (.cells #[.string tag] 9 (0, 0)) ∧ h r = some (mapO l) ∧ MapOk MkKey l ∧ ∀ m : Mk, (mget l m.v).isSome ↔ m ∈ s
theorem MksInv.put {rm rt r : Nat} {tag : ByteArray} {s : List Mk} {h : Mem} {l : List (Value × Value)} (h1 : h rm = some (.cells #[.map (some r)] 129 (0, 0))) (h2 : h rt = some (.cells #[.string tag] 9 (0, 0))) (h3 : h r = some (mapO l)) (hk : MapOk MkKey l) (hg : ∀ m : Mk, (mget l m.v).isSome ↔ m ∈ s) {n : Mk} (hn : GoodM n) (v : Value) :
    MksInv rm rt tag (s ++ [n]) (h.set r (mapO (mset l n.v v))) := by
  have e1 : rm ≠ r := ne_of_obj h1 h3 (by simp [mapO])
  have e2 : rt ≠ r := ne_of_obj h2 h3 (by simp [mapO])
  refine ⟨r, _, (Mem.set_ne e1).trans h1, (Mem.set_ne e2).trans h2, Mem.set_at _ _ _, hk.set ⟨n, hn, rfl⟩ v, fun m => ?_⟩
  rw [mget_mset, List.mem_append, List.mem_singleton]
  by_cases e : m = n
  · simp [e]
  · rw [if_neg fun k => e (Mk.v_inj k), hg]; simp [e]
theorem MkKey.ok {ti : TI} {fs : List (Nat × TypeId)} (e : ti.kind = .strct fs) {l : List (Value × Value)} (h : MapOk MkKey l) : MapOk (keyOk Tryz.prog 116 ti) l := h.weaken fun v hv => by
  obtain ⟨m, hm, rfl⟩ := hv
  unfold keyOk
  rw [e]
  exact ⟨mk_law, mk_keyOf hm⟩
theorem MkKey.one {ti : TI} {fs : List (Nat × TypeId)} (e : ti.kind = .strct fs) {m : Mk} (h : GoodM m) : keyOk Tryz.prog 116 ti m.v := by
  unfold keyOk
  rw [e]
  exact ⟨mk_law, mk_keyOf h⟩
end
section
variable {μ h0 : Mem} {r : Nat} {ty : TypeId} {rest : List Value}
end
end Go.Vx

/- Contracts: ground rules, the program's side: values put in, calls, tests, what lies in a universe. -/
namespace Go.Vx
open Go.Proofs Classical
theorem valF_at {vs : List T} {n : Int} (h0 : 0 ≤ n) (h1 : n < vs.length) : ∃ x, valF vs n = some x ∧ vs[n.toNat]? = some x := by
  obtain ⟨x, hx⟩ := at_some (l := vs) (i := n.toNat) (by omega)
  exact ⟨x, by rw [valF, if_pos h0, hx], hx⟩
section
variable {μ : Mem}
theorem ways_spec {size n most : Nat} (h1 : 1 ≤ size) (h8 : size ≤ 8) (hm : most ≤ 100000) (hn : n ≤ 1000) (hm1 : 1 ≤ most) :
    Spec Tryz.prog 307 [.int .i64 size, .int .i64 n, .int .i64 most] μ fun r μ' => WaysR size n most r ∧ μ' = μ := by
  refine Spec.forget (Spec.mk Tryz.func307 (by kernel_rfl) ?_)
  refine loop_intro (fun z : Nat × Nat => z.1 ≤ n ∧ z.2 = size ^ z.1 ∧ z.2 ≤ 8 * most) (fun (i, k) => ⟨[(0, .val (.int .i64 size)), (1, .val (.int .i64 n)), (2, .val (.int .i64 most)), (7, .val (.int .i64 (k : Nat))), (8, .val (.int .i64 (i : Nat)))], [], 0, μ, Mem.nil⟩) (fun z => n - z.1)
    (0, 1) ⟨Nat.zero_le _, rfl, by dsimp only; omega⟩ (fun (_, _) => ⟨rfl, rfl⟩) ⟨⟨rfl, rfl, rfl, rfl, rfl, trivial⟩, trivial, rfl, rfl⟩ ?_
  rintro ⟨i, k⟩ ⟨hi, hk, hb⟩
  dsimp only at hi hk hb
  have mono : size ^ i ≤ size ^ n := Nat.pow_le_pow_right h1 hi
  have fin : (¬ i < n ∨ ¬ k ≤ most) → WaysR size n most (.int .i64 (if ((most : Int) + 1) < (k : Int) then (most : Int) + 1 else (k : Int))) := fun h => by
    by_cases g : (most : Int) + 1 < (k : Int)
    · rw [if_pos g]
      exact ⟨most + 1, rfl, fun h => by omega, fun _ => by omega⟩
    · rw [if_neg g]
      refine ⟨k, rfl, fun h2 => ?_, fun h2 => ?_⟩
      · rcases h with h | h
        · obtain rfl : i = n := by omega
          exact hk
        · omega
      · rcases h with h | h
        · obtain rfl : i = n := by omega
          omega
        · omega
  refine ifd (fun g1 => ?_) (fun g1 => ?_)
  · refine ifd (fun g2 => ?_) (fun g2 => ?_)
    · have hks : k * size ≤ 8 * most := by
        have := Nat.mul_le_mul (show k ≤ most by omega) h8
        omega
      refine num_eq (x := ((k * size : Nat) : Int)) (by rw [← Int.natCast_mul]; exact wrap64 (by omega) (by omega)) ?_
      exact num64 (by omega) (by omega) ⟨(i + 1, k * size), ⟨by dsimp only; omega, by dsimp only; rw [hk, Nat.pow_succ], hks⟩, by dsimp only; omega, ⟨⟨rfl, rfl, rfl, rfl, rfl, trivial⟩, trivial, rfl, rfl⟩⟩
    · exact num64 (by omega) (by omega) (ret_plain (fin (.inr (by omega))))
  · exact num64 (by omega) (by omega) (ret_plain (fin (.inl (by omega))))
theorem with1_spec {vs : List T} {vb : Option Addr} {vc r3 : Nat} {ty : TypeId} {n : Int} (hv : Sl μ 4 vb vs.length ((vs.map T.tm).map Tm.d)) (h3 : μ r3 = some (.cells #[.slice vb vs.length vc] ty (0, 0))) (h0 : 0 ≤ n) (h1 : n < vs.length) :
    Spec Tryz.prog 341 [.int .i64 n, .pointer (some ⟨r3, 0, none⟩)] μ fun v μ' => optV (fun y tv => RepV μ' y.tm.d tv) (valF vs n) v := by
  obtain ⟨x, hx, hx2⟩ := valF_at h0 h1
  obtain ⟨ad, p, hel, hr⟩ := T.elemL hv hx2
  rw [hx]
  refine Spec.mk Tryz.func341 (by kernel_rfl) ?_
  intro r
  refine ext_intro [.slice vb vs.length vc] rfl (box_at h3) ?_
  refine elem_intro (by rw [show n = ((n.toNat : Nat) : Int) by omega]; exact hel) ?_
  exact ret_plain ⟨_, rfl, hr⟩
theorem with_spec {vs : List T} {vb : Option Addr} {vc : Nat} {x : T} {v : Value} (hv : Sl μ 4 vb vs.length ((vs.map T.tm).map Tm.d)) (hx : RepV μ x.tm.d v) (hl : ∀ n ∈ x.vars, 0 ≤ n ∧ n < vs.length) :
    Spec Tryz.prog 332 [v, .slice vb vs.length vc] μ fun v μ' => RepV μ' (x.subst (valF vs)).tm.d v := by
  have hx0 := hx
  obtain ⟨p, rfl⟩ := Tm.invV hx
  refine Spec.mk Tryz.func332 (by kernel_rfl) ?_
  intro r2 r3 r4
  refine call_frz [1] fun μ1 hle1 hno1 hat1 => ?_
  refine own_go (mapVars_rel (f := valF vs) (fun μ' h' => h' = Mem.nil ∧ μ1.Le μ') (fun g1 g2 => ⟨g2.1, g2.2.trans g1⟩) x (fun μ' h' g1 g2 n hn => ?_) ⟨rfl, Mem.Le.refl _⟩ (hx0.mono hle1)) fun v1 μ2 h2 hle2 hap2 hR => ?_
  · obtain ⟨rfl, g2⟩ := g2
    exact SpecH.weaken (Spec.beside (apart_nil _) (with1_spec (ty := 42) ((hv.mono hle1).mono g2) (g2 _ _ hat1) (hl n hn).1 (hl n hn).2)) fun v μ'' h'' g3 g4 g5 => ⟨g5.2, g5.1, g2.trans g3⟩
  · obtain ⟨hR, rfl, _⟩ := hR
    obtain ⟨q, rfl⟩ := Tm.invV hR
    exact ret_plain hR
theorem subst_take {xs : List T} {f : Int → Option T} {i : Nat} {x : T} (h : xs[i]? = some x) : (xs.map (T.subst f)).take (i + 1) = (xs.map (T.subst f)).take i ++ [x.subst f] := by
  rw [List.take_add_one, List.getElem?_map, h]; rfl
theorem callF_args2 {vs : List T} {g : Gl} {xs : List T} (h : g.terms = xs.map T.tm) : (callF vs g).args = xs.map (T.subst (valF vs)) := by
  show g.terms.map _ = _
  rw [h, List.map_map]
  exact List.map_congr_left fun x _ => by simp [T.toT_tm]
theorem callFact_spec {vs xs : List T} {vb : Option Addr} {vc : Nat} {g : Gl} {v : Value} (hv : Sl μ 4 vb vs.length ((vs.map T.tm).map Tm.d)) (hg : RepV μ g.d v) (hx : g.terms = xs.map T.tm) (hx4 : xs.length ≤ 4) (hl : ∀ x ∈ xs, ∀ n ∈ x.vars, 0 ≤ n ∧ n < vs.length) :
    Spec Tryz.prog 308 [v, .slice vb vs.length vc] μ fun v μ' => RepV μ' (callF vs g).fc.d v := by
  obtain ⟨p0, rfl, hts, -⟩ := Gl.inv hg
  have hca := callF_args2 (vs := vs) hx
  rw [hx, List.length_map] at hts
  rw [show g.terms.length = xs.length by rw [hx, List.length_map]]
  refine Spec.mk Tryz.func308 (by kernel_rfl) ?_
  intro r2 r4 r5
  refine loop_nil (fun z : Nat × Option Nat × Nat × List Value × Mem => z.1 ≤ xs.length ∧ μ.Le z.2.2.2.2 ∧ Rows z.2.2.2.2 4 ((((xs.map (T.subst (valF vs))).take z.1).map T.tm).map Tm.d) z.2.2.2.1)
    (fun (i, b, c, ys, μ') => ⟨[(1, .val (.slice vb vs.length vc)), (4, .loc 1 r4 0), (5, .loc 2 r5 0), (12, .val (.slice p0.1.1 xs.length p0.1.2)), (13, .val (.int .i64 xs.length)), (14, .val (.int .i64 i))], [(1, some (.cells r4 [.val (.string ⟨#[]⟩), .val (.slice none 0 0)] 189)), (2, some (.cells r5 [.val (.string g.name), .row 3 b ys.length c] 189)), (3, some (.row b c 44 4 ys))], 4, μ', Mem.nil⟩) (fun z => xs.length - z.1)
    (0, none, 0, [], μ) ⟨Nat.zero_le _, Mem.Le.refl _, .nil⟩ (fun (_, _, _, _, _) => ⟨rfl, rfl⟩) ⟨⟨⟨_, rfl, .inl rfl⟩, ⟨_, rfl, .inl rfl⟩, ⟨_, rfl, .inl rfl⟩, ⟨_, rfl, .inl rfl⟩, ⟨_, rfl, .inl rfl⟩, ⟨_, rfl, .inl rfl⟩, trivial⟩, ⟨.inl rfl, .inr (.inr ⟨_, _, _, _, rfl, rfl, .inl rfl, .inr ⟨3, rfl, rfl, Nat.le_refl _⟩, trivial⟩), .inr (.inl ⟨_, _, rfl, Nat.le_refl _⟩), trivial⟩, rfl, rfl⟩ ?_
  rintro ⟨i, b, c, ys, μ'⟩ ⟨hi, hle, hrows⟩
  dsimp only at hi hle hrows
  have hlen := hrows.len
  simp only [List.length_map, List.length_take] at hlen
  refine ifd (fun hlt => ?_) (fun hlt => ?_)
  · obtain ⟨x, hx⟩ := at_some (l := xs) (i := i) (by omega)
    obtain ⟨ad, p, hel, hr⟩ := T.elemL (hts.mono hle) hx
    refine elem_intro hel ?_
    intro r7
    refine call_plain (with_spec (hv.mono hle) hr (hl x (mem_at hx))) fun v1 μ1 hle1 hR => ?_
    obtain ⟨q1, rfl⟩ := Tm.invV hR
    intro r23
    refine grow_intro ?_ ?_ fun b' c' _ => ?_
    · show (ys.length + 1) * 56 ≤ _; omega
    · exact Nat.le_trans (m := 1000) (show ys.length + 1 ≤ _ by omega) (by decide)
    refine num64 (by omega) (by omega) ⟨(i + 1, b', c', _, μ1), ⟨by dsimp only; omega, hle.trans hle1, ?_⟩, by dsimp only; omega, ⟨⟨rfl, rfl, rfl, rfl, rfl, rfl, trivial⟩, ⟨rfl, rfl, rfl, trivial⟩, rfl, rfl⟩⟩
    dsimp only
    rw [subst_take hx]
    simp only [List.map_append, List.map_cons, List.map_nil]
    exact (hrows.mono hle1).append (Rows.one hR (Tm.d_n _))
  obtain rfl : i = xs.length := by omega
  rw [List.take_of_length_le (by rw [List.length_map]; omega)] at hrows
  refine ret_frz [3] fun μ2 hle2 hno2 hat2 => .inl ?_
  have k := Rows.sl hat2 (hrows.mono hle2) (Nat.le_trans (m := 1000) (by omega) (by decide))
  rw [Fc.d_eq, F.fc_args, hca]
  exact ⟨_, rfl, RepS.str (RepS.last k)⟩
theorem inUniverse_spec {U l : List T} {ub lb : Option Addr} {uc lc : Nat} (hu : Sl μ 4 ub U.length ((U.map T.tm).map Tm.d)) (hl : Sl μ 4 lb l.length ((l.map T.tm).map Tm.d)) :
    Gives Tryz.prog 250 [.slice ub U.length uc, .slice lb l.length lc] μ (.bool (decide (∀ a ∈ l, a ∈ U))) := by
  have hn := maxLen_le hl.max
  have hm := maxLen_le hu.max
  refine Spec.mk Tryz.func250 (by kernel_rfl) ?_
  refine loop_intro (fun i : Nat => i ≤ l.length ∧ ∀ a ∈ l.take i, a ∈ U)
    (fun i => ⟨[(0, .val (.slice ub U.length uc)), (10, .val (.slice lb l.length lc)), (11, .val (.int .i64 l.length)), (12, .val (.int .i64 i))], [], 0, μ, Mem.nil⟩) (fun i => l.length - i)
    0 ⟨Nat.zero_le _, by simp⟩ (fun _ => ⟨rfl, rfl⟩) ⟨⟨rfl, rfl, rfl, rfl, trivial⟩, trivial, rfl, rfl⟩ ?_
  rintro i ⟨hi, hall⟩
  refine ifd (fun hlt => ?_) (fun hlt => ?_)
  · obtain ⟨x, hx⟩ := at_some (l := l) (i := i) (by omega)
    obtain ⟨ad, p, hel, hr⟩ := T.elemL hl hx
    refine elem_intro hel ?_
    intro r6
    refine loop_intro (fun z : Nat × Bool => z.1 ≤ U.length ∧ (z.2 = true ↔ x ∈ U.take z.1))
      (fun (k, f) => ⟨[(0, .val (.slice ub U.length uc)), (6, .loc 0 r6 0), (7, .val (.bool f)), (10, .val (.slice lb l.length lc)), (11, .val (.int .i64 l.length)), (12, .val (.int .i64 i)), (16, .val (.slice ub U.length uc)), (17, .val (.int .i64 U.length)), (18, .val (.int .i64 k))], [(0, some (.cells r6 [.val (.int .i64 x.tm.kind), .val (.int .i64 x.tm.num), .val (.string x.tm.name), .val (.slice p.1 x.tm.args.length p.2)] 44))], 1, μ, Mem.nil⟩) (fun z => U.length - z.1)
      (0, false) ⟨Nat.zero_le _, by simp⟩ (fun (_, _) => ⟨rfl, rfl⟩) ⟨⟨rfl, rfl, rfl, rfl, rfl, rfl, rfl, rfl, rfl, trivial⟩, ⟨rfl, trivial⟩, rfl, rfl⟩ ?_
    rintro ⟨k, f⟩ ⟨hk, hf⟩
    dsimp only at hk hf
    refine ifd (fun h2 => ?_) (fun h2 => ?_)
    · obtain ⟨y, hy⟩ := at_some (l := U) (i := k) (by omega)
      obtain ⟨ad2, p2, hel2, hr2⟩ := T.elemL hu hy
      have htk : x ∈ U.take (k + 1) ↔ x ∈ U.take k ∨ y = x := by
        rw [List.take_add_one, hy, Option.toList_some, List.mem_append, List.mem_singleton]
        exact or_congr_right ⟨Eq.symm, Eq.symm⟩
      refine elem_intro hel2 ?_
      intro r9
      refine if_intro (fun hb => ?_) (fun hb => ?_)
      · refine num64 (by omega) (by omega) ⟨(k + 1, true), ⟨by dsimp only; omega, ?_⟩, by dsimp only; omega, ⟨⟨rfl, rfl, rfl, rfl, rfl, rfl, rfl, rfl, rfl, trivial⟩, ⟨rfl, trivial⟩, rfl, rfl⟩⟩
        dsimp only
        rw [htk]
        exact ⟨fun _ => .inl (hf.1 hb), fun _ => rfl⟩
      · refine call_gives (equalTerms_spec y x hr2 hr) ?_
        refine num64 (by omega) (by omega) ⟨(k + 1, decide (y = x)), ⟨by dsimp only; omega, ?_⟩, by dsimp only; omega, ⟨⟨rfl, rfl, rfl, rfl, rfl, rfl, rfl, rfl, rfl, trivial⟩, ⟨rfl, trivial⟩, rfl, rfl⟩⟩
        dsimp only
        rw [htk, decide_eq_true_eq]
        exact ⟨.inr, fun h => h.elim (fun h => by rw [hf.2 h] at hb; cases hb) id⟩
    obtain rfl : k = U.length := by omega
    rw [List.take_length] at hf
    refine if_intro (fun hb => ?_) (fun hb => ?_)
    · have hb : f = false := by simpa using hb
      refine ret_gives (isF fun k => ?_) rfl
      rw [hf.2 (k x (mem_at hx))] at hb; cases hb
    · have hb : f = true := by simpa using hb
      refine num64 (by omega) (by omega) ⟨i + 1, ⟨by omega, ?_⟩, by omega, ⟨⟨rfl, rfl, rfl, rfl, trivial⟩, trivial, rfl, rfl⟩⟩
      rw [List.take_add_one, hx, Option.toList_some]
      intro y hy
      rcases List.mem_append.1 hy with hy | hy
      · exact hall y hy
      · rw [List.mem_singleton.1 hy]; exact hf.1 hb
  · obtain rfl : i = l.length := by omega
    rw [List.take_length] at hall
    exact ret_gives (isT hall) rfl
set_option maxHeartbeats 4000000 in
set_option maxRecDepth 20000 in
theorem trueWith_spec {vs xs : List T} {vb : Option Addr} {vc : Nat} {g : Gl} {v : Value} (hv : Sl μ 4 vb vs.length ((vs.map T.tm).map Tm.d)) (hg : RepV μ g.d v) (hx : g.terms = xs.map T.tm) (hx4 : xs.length ≤ 4) (hl : ∀ x ∈ xs, ∀ n ∈ x.vars, 0 ≤ n ∧ n < vs.length) (hsl : SimpleLen g.kind xs.length) :
    Spec Tryz.prog 309 [v, .slice vb vs.length vc] μ fun v _ => v = .bool (decide (testT g.kind (xs.map (T.subst (valF vs))))) := by
  obtain ⟨p0, rfl, hts, -⟩ := Gl.inv hg
  rw [hx, List.length_map] at hts
  rw [show g.terms.length = xs.length by rw [hx, List.length_map]]
  refine Spec.mk Tryz.func309 (by kernel_rfl) ?_
  intro r2 r5
  refine loop_nil (fun z : Nat × Option Nat × Nat × List Value × Mem => z.1 ≤ xs.length ∧ μ.Le z.2.2.2.2 ∧ Rows z.2.2.2.2 4 ((((xs.map (T.subst (valF vs))).take z.1).map T.tm).map Tm.d) z.2.2.2.1)
    (fun (i, b, c, ys, μ') => ⟨[(1, .val (.slice vb vs.length vc)), (2, .loc 0 r2 0), (5, .loc 1 r5 0), (12, .val (.slice p0.1.1 xs.length p0.1.2)), (13, .val (.int .i64 xs.length)), (14, .val (.int .i64 i))], [(0, some (.cells r2 [.val (.int .i64 g.kind), .val (.string g.name), .val (.slice p0.1.1 xs.length p0.1.2), .val (.slice p0.2.1 g.goals.length p0.2.2)] 55)), (1, some (.cells r5 [.val (.int .i64 g.kind), .val (.string ⟨#[]⟩), .row 2 b ys.length c, .val (.slice none 0 0)] 55)), (2, some (.row b c 44 4 ys))], 3, μ', Mem.nil⟩) (fun z => xs.length - z.1)
    (0, none, 0, [], μ) ⟨Nat.zero_le _, Mem.Le.refl _, .nil⟩ (fun (_, _, _, _, _) => ⟨rfl, rfl⟩) ⟨⟨⟨_, rfl, .inl rfl⟩, ⟨_, rfl, .inl rfl⟩, ⟨_, rfl, .inl rfl⟩, ⟨_, rfl, .inl rfl⟩, ⟨_, rfl, .inl rfl⟩, ⟨_, rfl, .inl rfl⟩, trivial⟩, ⟨.inl rfl, .inr (.inr ⟨_, _, _, _, rfl, rfl, .inl rfl, .inl rfl, .inr ⟨2, rfl, rfl, Nat.le_refl _⟩, .inl rfl, trivial⟩), .inr (.inl ⟨_, _, rfl, Nat.le_refl _⟩), trivial⟩, rfl, rfl⟩ ?_
  rintro ⟨i, b, c, ys, μ'⟩ ⟨hi, hle, hrows⟩
  dsimp only at hi hle hrows
  have hlen := hrows.len
  simp only [List.length_map, List.length_take] at hlen
  refine ifd (fun hlt => ?_) (fun hlt => ?_)
  · obtain ⟨x, hx⟩ := at_some (l := xs) (i := i) (by omega)
    obtain ⟨ad, p, hel, hr⟩ := T.elemL (hts.mono hle) hx
    refine elem_intro hel ?_
    intro r7
    refine call_plain (with_spec (hv.mono hle) hr (hl x (mem_at hx))) fun v1 μ1 hle1 hR => ?_
    obtain ⟨q1, rfl⟩ := Tm.invV hR
    intro r23
    refine grow_intro ?_ ?_ fun b' c' _ => ?_
    · show (ys.length + 1) * 56 ≤ _; omega
    · exact Nat.le_trans (m := 1000) (show ys.length + 1 ≤ _ by omega) (by decide)
    refine num64 (by omega) (by omega) ⟨(i + 1, b', c', _, μ1), ⟨by dsimp only; omega, hle.trans hle1, ?_⟩, by dsimp only; omega, ⟨⟨rfl, rfl, rfl, rfl, rfl, rfl, trivial⟩, ⟨rfl, rfl, rfl, trivial⟩, rfl, rfl⟩⟩
    dsimp only
    rw [subst_take hx]
    simp only [List.map_append, List.map_cons, List.map_nil]
    exact (hrows.mono hle1).append (Rows.one hR (Tm.d_n _))
  obtain rfl : i = xs.length := by omega
  rw [List.take_of_length_le (by rw [List.length_map]; omega)] at hrows
  refine if_frz [2] fun μ2 hle2 hno2 hat2 => ?_
  have hs : Sl μ2 4 (b.map fun r => (⟨r, 0, none⟩ : Addr)) ys.length (((xs.map (T.subst (valF vs))).map T.tm).map Tm.d) := by
    have k := Rows.sl hat2 (hrows.mono hle2) (Nat.le_trans (m := 1000) (by omega) (by decide))
    obtain ⟨bz, cz, ez, hs⟩ := Rep.sl k
    obtain ⟨e1, e2, _⟩ := Value.slice.inj ez
    rwa [← e1, ← e2] at hs
  refine ⟨fun h => ?_, fun h0 => ?_⟩
  · have h := of_decide_eq_true h
    exact ret_plain (by rw [h]; simp [testT])
  replace h0 := of_decide_eq_false h0
  refine ifd (fun h => ?_) (fun h2 => ?_)
  · obtain ⟨x, y, hxy⟩ := two_T (xs := xs.map (T.subst (valF vs))) (by rw [List.length_map]; exact hsl.two (by omega))
    rw [hxy] at hs ⊢
    obtain ⟨ad1, p1, e1, g1⟩ := T.elemL hs (i := 0) (x := x) rfl
    obtain ⟨ad2, p2, e2, g2⟩ := T.elemL hs (i := 1) (x := y) rfl
    refine elem_intro e1 (elem_intro e2 (call_gives (equalTerms_spec x y g1 g2) (ret_plain ?_)))
    rw [h]; exact congrArg Value.bool (decide_eq_decide.2 testT_2.symm)
  refine ifd (fun h => ?_) (fun h3 => ?_)
  · obtain ⟨x, y, hxy⟩ := two_T (xs := xs.map (T.subst (valF vs))) (by rw [List.length_map]; exact hsl.two (by omega))
    rw [hxy] at hs ⊢
    obtain ⟨ad1, p1, e1, g1⟩ := T.elemL hs (i := 0) (x := x) rfl
    obtain ⟨ad2, p2, e2, g2⟩ := T.elemL hs (i := 1) (x := y) rfl
    refine elem_intro e1 (elem_intro e2 (call_gives (equalTerms_spec x y g1 g2) (ret_plain ?_)))
    rw [h, ← decide_not]; exact congrArg Value.bool (decide_eq_decide.2 testT_3.symm)
  refine ifd (fun h => ?_) (fun h4 => ?_)
  · obtain ⟨x, hxy⟩ := one_of' (xs := xs.map (T.subst (valF vs))) (by rw [List.length_map]; exact hsl.one (by omega))
    rw [hxy] at hs ⊢
    obtain ⟨ad1, p1, e1, g1⟩ := T.elemL hs (i := 0) (x := x) rfl
    refine elem_intro e1 (ret_plain ?_)
    rw [h]; exact congrArg Value.bool (decide_eq_decide.2 testT_4.symm)
  refine ifd (fun h => ?_) (fun h5 => ?_)
  · obtain ⟨x, hxy⟩ := one_of' (xs := xs.map (T.subst (valF vs))) (by rw [List.length_map]; exact hsl.one (by omega))
    rw [hxy] at hs ⊢
    obtain ⟨ad1, p1, e1, g1⟩ := T.elemL hs (i := 0) (x := x) rfl
    refine elem_intro e1 (ret_plain ?_)
    rw [h]; exact congrArg Value.bool (decide_eq_decide.2 testT_5.symm)
  refine ifd (fun h => ?_) (fun h6 => ?_)
  · obtain ⟨x, y, hxy⟩ := two_T (xs := xs.map (T.subst (valF vs))) (by rw [List.length_map]; exact hsl.two (by omega))
    rw [hxy] at hs ⊢
    obtain ⟨ad1, p1, e1, g1⟩ := T.elemL hs (i := 0) (x := x) rfl
    obtain ⟨ad2, p2, e2, g2⟩ := T.elemL hs (i := 1) (x := y) rfl
    refine elem_intro e2 (elem_intro e1 (call_gives (hasSymbol_spec x.tm.name y g2) (ret_plain ?_)))
    rw [h, ← decide_not]; exact congrArg Value.bool (decide_eq_decide.2 testT_6.symm)
  refine ret_plain ?_
  rw [decide_eq_false]
  unfold testT
  rw [if_neg h0, if_neg h2, if_neg h3, if_neg h4, if_neg h5, if_neg h6]
  exact id
end
end Go.Vx

/- Contracts: ground rules, the program's side. -/
namespace Go.Vx
open Go.Proofs Classical
theorem Gl.all_trans : ∀ (b : Gl) {g x : Gl}, g ∈ b.all → x ∈ g.all → x ∈ b.all :=
  Gl.ind fun b ih g x hg hx => by
    rw [Gl.all_eq] at hg
    rcases List.mem_cons.1 hg with rfl | hg
    · exact hx
    · have hv_ := List.mem_flatMap.1 hg
      obtain ⟨y, hy, hg⟩ := hv_
      rw [Gl.all_eq]
      exact List.mem_cons_of_mem _ (List.mem_flatMap.2 ⟨y, hy, ih y hy hg hx⟩)
/-- A goal whose variables have values. -/
structure ClV (n : Nat) (g : Gl) (xs : List T) : Prop where
  terms : g.terms = xs.map T.tm
  len : xs.length ≤ 4
  low : ∀ x ∈ xs, ∀ m ∈ x.vars, 0 ≤ m ∧ m < (n : Int)
theorem ClV.mk1 {r : Rl} {p : Pg} {i : Nat} (h : RelOk p i r) {g : Gl} (hg : g ∈ r.body.all) {n : Nat} (hn : r.arity + r.locals = (n : Int)) : ∃ xs, ClV n g xs := by
  have hS := h.body.all _ g hg
  have hv_ := lift_ok hS.top.tm
  obtain ⟨xs, hxs, hok⟩ := hv_
  refine ⟨xs, hxs, by have := hS.lens4; rw [hxs, List.length_map] at this; exact this, fun x hx m hm => ?_⟩
  have hv : m ∈ r.body.vars := by
    rw [Gl.vars]
    refine List.mem_flatMap.2 ⟨g, hg, List.mem_flatMap.2 ⟨x, ?_, hm⟩⟩
    rw [hxs, toTs_tm]; exact hx
  have h1 := h.vars m hv
  have h2 := Gl.vars_range h.body m hv
  omega
theorem ClV.of {p : Pg} (hp : p.Ok) {i : Nat} {r : Rl} (hi : p.rels[i]? = some r) {L : List (List Gl)} (hL : r.body.cl = some L) {c : List Gl} (hc : c ∈ L) {g : Gl} (hg : g ∈ c) {n : Nat} (hn : r.arity + r.locals = (n : Int)) :
    (∃ xs, ClV n g xs) ∧ (g.kind = 10 → ∃ xs, ClV n g.kid xs) := by
  have hv_ := Gl.cl_all r.body hL c hc g hg
  obtain ⟨h1, h2⟩ := hv_
  have hrel := hp.2 i r hi
  refine ⟨ClV.mk1 hrel h1 hn, fun h10 => ClV.mk1 hrel (Gl.all_trans _ h1 ?_) hn⟩
  have hk := Gl.kid_at ((hrel.body.all _ g h1).top.gl1 h10)
  rw [Gl.all_eq]
  refine List.mem_cons_of_mem _ (List.mem_flatMap.2 ⟨_, mem_at hk, ?_⟩)
  rw [Gl.all_eq]; simp
theorem okG_9 {U vs : List T} {g : Gl} (h : g.kind = 9) : okG U vs g ↔ ∀ a ∈ (callF vs g).args, a ∈ U := by rw [okG, if_pos h]
theorem okG_10 {U vs : List T} {g : Gl} (h : g.kind = 10) : okG U vs g ↔ ∀ a ∈ (callF vs g.kid).args, a ∈ U := by rw [okG, if_neg (by omega), if_pos h]
theorem okG_else {U vs xs : List T} {g : Gl} (h9 : g.kind ≠ 9) (h10 : g.kind ≠ 10) (hx : g.terms = xs.map T.tm) : okG U vs g ↔ testT g.kind (xs.map (T.subst (valF vs))) := by
  rw [okG, if_neg h9, if_neg h10, hx, List.map_map]
  have e : (List.map ((fun t => T.subst (valF vs) t.toT) ∘ T.tm) xs) = xs.map (T.subst (valF vs)) := List.map_congr_left fun x _ => by simp [T.toT_tm]
  rw [e]
def clsD (L : List (List Gl)) : D := .sl 1 (L.map csD)
theorem clsD_n (L : List (List Gl)) : (clsD L).n = 1 := rfl
noncomputable def clOf (r : Rl) : List (List Gl) := r.body.cl.getD []
section
variable {μ : Mem}
/-- A made row of terms that is being filled. -/
structure Fill (μ : Mem) (vs : List T) (n k : Nat) (xs : List Value) : Prop where
  len : xs.length = n
  done : ∀ (j : Nat) x, j < k → vs[j]? = some x → ∃ v, xs[j]? = some v ∧ RepV μ x.tm.d v
  rest : ∀ j, k ≤ j → j < n → xs[j]? = some (.agg #[.int .i64 0, .int .i64 0, .string ⟨#[]⟩, .slice none 0 0])
theorem Fill.start {vs : List T} {n : Nat} : Fill μ vs n 0 (List.replicate n (.agg #[.int .i64 0, .int .i64 0, .string ⟨#[]⟩, .slice none 0 0])) :=
  ⟨by simp, fun j x h => by omega, fun j _ h => by simp [h]⟩
theorem Fill.step {vs : List T} {n k : Nat} {xs : List Value} (h : Fill μ vs n k xs) {x : T} {v : Value} (hx : vs[k]? = some x) (hv : RepV μ x.tm.d v) (hk : k < n) : Fill μ vs n (k + 1) (xs.set k v) := by
  refine ⟨by rw [List.length_set]; exact h.len, fun j y hj hy => ?_, fun j hj hn => ?_⟩
  · by_cases e : j = k
    · subst e
      rw [hx] at hy; cases hy
      exact ⟨v, by rw [List.getElem?_set_self (by rw [h.len]; exact hk)], hv⟩
    · have hv_ := h.done j y (by omega) hy
      obtain ⟨w, h1, h2⟩ := hv_
      exact ⟨w, by rw [List.getElem?_set_ne (Ne.symm e)]; exact h1, h2⟩
  · rw [List.getElem?_set_ne (by omega)]; exact h.rest j (by omega) hn
theorem RowAt.up {μ' : Mem} {b : Option Nat} {k es : Nat} {ys : List Value} (h : RowAt μ b k es ys) (hle : μ.Le μ') : RowAt μ' b k es ys := by
  cases b with
  | none => exact h
  | some r =>
    obtain ⟨h1, h2, arr, ty, h3, h4⟩ := h
    exact ⟨h1, h2, arr, ty, hle _ _ h3, h4⟩
theorem Rows.atI {es : Nat} : ∀ {ds : List D} {xs : List Value}, Rows μ es ds xs → ∀ {i : Nat} {d : D} {v : Value}, ds[i]? = some d → xs[i]? = some v → RepV μ d v
  | _, _, .nil, i, d, v, h, _ => by simp at h
  | _, _, .cons h1 _ h, 0, d, v, e1, e2 => by cases e1; cases e2; exact h1
  | _, _, .cons _ _ h, i + 1, d, v, e1, e2 => Rows.atI h (i := i) (by simpa using e1) (by simpa using e2)
theorem Rows.of_at {es : Nat} : ∀ {ds : List D} {xs : List Value}, ds.length = xs.length → (∀ (j : Nat) d v, ds[j]? = some d → xs[j]? = some v → RepV μ d v ∧ d.n = es) → Rows μ es ds xs
  | [], [], _, _ => .nil
  | [], _ :: _, h, _ => by simp at h
  | _ :: _, [], h, _ => by simp at h
  | d :: ds, x :: xs, h, k => .cons (k 0 d x rfl rfl).1 (k 0 d x rfl rfl).2 (Rows.of_at (by simpa using h) fun j d v h1 h2 => k (j + 1) d v (by simpa using h1) (by simpa using h2))
theorem Fill.all {vs : List T} {n : Nat} {xs : List Value} (h : Fill μ vs n n xs) (hl : vs.length = n) : Rows μ 4 ((vs.map T.tm).map Tm.d) xs :=
  Rows.of_at (by simp [h.len, hl]) fun j d v h1 h2 => by
    simp only [List.getElem?_map, Option.map_eq_some_iff] at h1
    obtain ⟨t, ⟨x, hx, rfl⟩, rfl⟩ := h1
    obtain ⟨w, h3, h4⟩ := h.done j x (by have := (List.getElem?_eq_some_iff.1 hx).1; omega) hx
    rw [h2] at h3
    cases h3
    exact ⟨h4, Tm.d_n _⟩
set_option maxHeartbeats 16000000 in
set_option maxRecDepth 20000 in
theorem groundRules_spec {p : Pg} {U : List T} {v : Value} {ub : Option Addr} {uc : Nat} (hp : RepV μ p.d v) (hok : p.Ok) (hu : Sl μ 4 ub U.length ((U.map T.tm).map Tm.d)) (hU1 : 1 ≤ U.length) (hU8 : U.length ≤ 8) :
    Spec Tryz.prog 248 [v, .slice ub U.length uc] μ fun v μ' => optRu (fun y tv => RepV μ' (.sl 6 ((y.map Ru.rd).map RuD.d)) tv) (groundR p U) v := by
  have hp0 := hp
  have hv_ := Pg.inv hp
  obtain ⟨q, rfl, hrl⟩ := hv_
  have hn := hok.1
  refine Spec.mk Tryz.func248 (by kernel_rfl) ?_
  intro r2 r28
  refine loop_intro (fun z : Nat × Option Nat × Nat × List Value × Mem => z.1 ≤ p.rels.length ∧ μ.Le z.2.2.2.2 ∧ Rows z.2.2.2.2 1 (((p.rels.take z.1).map clOf).map clsD) z.2.2.2.1 ∧ ∀ r ∈ p.rels.take z.1, r.body.cl ≠ none ∧ U.length ^ (r.arity + r.locals).toNat ≤ 4096)
    (fun (i, b, c, ys, μ') => ⟨[(1, .val (.slice ub U.length uc)), (2, .loc 0 r2 0), (6, .row 1 b ys.length c), (30, .val (.slice q.1 p.rels.length q.2)), (31, .val (.int .i64 p.rels.length)), (32, .val (.int .i64 i))], [(0, some (.cells r2 [.val (.slice q.1 p.rels.length q.2)] 67)), (1, some (.row b c 157 1 ys))], 2, μ', Mem.nil⟩) (fun z => p.rels.length - z.1)
    (0, some r28, 0, [], μ) ⟨Nat.zero_le _, Mem.Le.refl _, .nil, by simp⟩ (fun (_, _, _, _, _) => ⟨rfl, rfl⟩) ⟨⟨rfl, rfl, rfl, rfl, rfl, rfl, trivial⟩, ⟨rfl, rfl, trivial⟩, rfl, rfl⟩ ?_
  rintro ⟨i, b, c, ys, μ'⟩ ⟨hi, hle, hbod, hways⟩
  dsimp only at hi hle hbod hways
  have hbl := hbod.len
  simp only [List.length_map, List.length_take] at hbl
  refine ifd (fun hlt => ?_) (fun hlt => ?_)
  · have hv_ := at_some (l := p.rels) (i := i) (by omega)
    obtain ⟨r, hr⟩ := hv_
    have hv_ := Rl.elemA (hrl.mono hle) hr
    obtain ⟨ad, q2, hel, hrv, hb⟩ := hv_
    have hb : RepV μ' r.body.d (.agg (r.body.cs q2).toArray) := hb
    have hrok := hok.2 i r hr
    have hv_ := Int.eq_ofNat_of_zero_le hrok.ar0
    obtain ⟨a, ha⟩ := hv_
    have hv_ := Int.eq_ofNat_of_zero_le hrok.lo0
    obtain ⟨lo, hlo⟩ := hv_
    have har4 := hrok.ar4
    have hlo8 := hrok.lo8
    have hsz := hrok.size
    have hnn : (r.arity + r.locals).toNat = a + lo := by omega
    refine elem_intro hel ?_
    intro r8
    refine call_plain (clausesOf_spec r.body hb hrok.body (by omega)) fun v3 μ3 hle3 hR3 => ?_
    cases hL : r.body.cl with
    | none =>
      rw [hL] at hR3
      obtain rfl := hR3
      refine if_intro (fun _ => ret_plain ?_) (fun h => nomatch h)
      rw [groundR, if_neg fun k => (k.1 r (mem_at hr)).1 hL]; rfl
    | some L =>
    rw [hL] at hR3
    obtain ⟨tv, rfl, hLr⟩ := hR3
    obtain ⟨pv, rfl⟩ := hLr.inv
    refine if_intro (fun h => nomatch h) (fun _ => ?_)
    refine num_eq (x := ((a + lo : Nat) : Int)) (by rw [wrap64 (by omega) (by omega)]; omega) ?_
    refine call_plain (ways_spec (size := U.length) (n := a + lo) (most := 4096) hU1 hU8 (by omega) (by omega) (by omega)) fun v4 μ4 hle4 hR4 => ?_
    obtain ⟨⟨W, rfl, hW1, hW2⟩, e4⟩ := hR4
    obtain rfl := e4.symm
    refine ifd (fun hbig => ret_plain ?_) (fun hsmall => ?_)
    · rw [groundR, if_neg fun k => by
        have h1 := (k.1 r (mem_at hr)).2
        rw [hnn] at h1
        have := hW1 h1
        omega]; rfl
    have hWle : U.length ^ (a + lo) ≤ 4096 := Nat.le_of_not_lt fun h => by have := hW2 h; omega
    intro r57
    refine grow_intro ?_ ?_ fun b' c' _ => ?_
    · show (ys.length + 1) * 24 ≤ _; omega
    · exact Nat.le_trans (m := 1000) (show ys.length + 1 ≤ _ by omega) (by decide)
    have hLr2 : RepV μ3 (clsD L) (.slice pv.1 L.length pv.2) := hLr
    have hcl : clOf r = L := by rw [clOf, hL]; rfl
    refine num64 (by omega) (by omega) ⟨(i + 1, b', c', _, μ3), ⟨by dsimp only; omega, hle.trans hle3, ?_, ?_⟩, by dsimp only; omega, ⟨⟨rfl, rfl, rfl, rfl, rfl, rfl, trivial⟩, ⟨rfl, rfl, trivial⟩, rfl, rfl⟩⟩
    · dsimp only
      rw [List.take_add_one, hr, Option.toList_some, List.map_append, List.map_append]
      refine (hbod.mono hle3).append (Rows.one (d := clsD (clOf r)) ?_ (clsD_n _))
      rw [hcl]; exact hLr2
    · dsimp only
      intro x hx
      rw [List.take_add_one, hr, Option.toList_some] at hx
      rcases List.mem_append.1 hx with hx | hx
      · exact hways x hx
      · rw [List.mem_singleton.1 hx, hL, hnn]
        exact ⟨(fun h => nomatch h), hWle⟩
  obtain rfl : i = p.rels.length := by omega
  rw [List.take_length] at hbod hways
  clear hlt hi
  intro r60
  refine loop_intro (fun z : Nat × Option Nat × Nat × List Value × Mem => z.1 ≤ p.rels.length ∧ μ'.Le z.2.2.2.2 ∧ Rows z.2.2.2.2 6 ((((p.rels.take z.1).flatMap (rulesR U)).map Ru.rd).map RuD.d) z.2.2.2.1 ∧ ((p.rels.take z.1).flatMap (rulesR U)).length ≤ 2000)
    (fun (i, ob, oc, os, μ2) => ⟨[(1, .val (.slice ub U.length uc)), (6, .row 1 b ys.length c), (11, .row 2 ob os.length oc), (62, .val (.slice q.1 p.rels.length q.2)), (63, .val (.int .i64 p.rels.length)), (64, .val (.int .i64 i))], [(1, some (.row b c 157 1 ys)), (2, some (.row ob oc 242 6 os))], 3, μ2, Mem.nil⟩) (fun z => p.rels.length - z.1)
    (0, some r60, 0, [], μ') ⟨Nat.zero_le _, Mem.Le.refl _, .nil, by simp⟩ (fun (_, _, _, _, _) => ⟨rfl, rfl⟩) ⟨⟨rfl, rfl, rfl, rfl, rfl, rfl, trivial⟩, ⟨rfl, rfl, trivial⟩, rfl, rfl⟩ ?_
  rintro ⟨i, ob, oc, os, μ2⟩ ⟨hi, hle2, hrows, hroom⟩
  dsimp only at hi hle2 hrows hroom
  have hol := hrows.len
  simp only [List.length_map] at hol
  refine ifd (fun hlt => ?_) (fun hlt => ?_)
  rotate_left
  · obtain rfl : i = p.rels.length := by omega
    rw [List.take_length] at hrows hroom hol
    have hall : (p.rels.flatMap (rulesR U)) = rulesP p U := rfl
    rw [hall] at hrows hroom hol
    rw [groundR, if_pos ⟨hways, hroom⟩]
    refine ret_frz [2] fun μ3 hle3 hno hat => .inl ⟨_, rfl, ?_⟩
    exact Rows.sl hat (hrows.mono hle3) (Nat.le_trans (m := 100000) (by omega) (by decide))
  have hv_ := at_some (l := p.rels) (i := i) (by omega)
  obtain ⟨r, hr⟩ := hv_
  have hv_ := Rl.elemA ((hrl.mono hle).mono hle2) hr
  obtain ⟨ad, q2, hel, hrv, _⟩ := hv_
  have hrok := hok.2 i r hr
  have hv_ := Int.eq_ofNat_of_zero_le hrok.ar0
  obtain ⟨a, ha⟩ := hv_
  have hv_ := Int.eq_ofNat_of_zero_le hrok.lo0
  obtain ⟨lo, hlo⟩ := hv_
  have har4 := hrok.ar4
  have hlo8 := hrok.lo8
  have hsz := hrok.size
  have hnn : (r.arity + r.locals).toNat = a + lo := by omega
  have hv_ := Option.ne_none_iff_exists'.1 (hways r (mem_at hr)).1
  obtain ⟨L, hL⟩ := hv_
  have hWle := (hways r (mem_at hr)).2
  rw [hnn] at hWle
  have hclr : clOf r = L := by rw [clOf, hL]; rfl
  have hLb := Gl.cl_bnd r.body hL
  -- the clauses
  have hv_ := at_some (l := ys) (i := i) (by omega)
  obtain ⟨vL, hvL⟩ := hv_
  have hLrep := Rows.atI hbod (i := i) (d := clsD L) (by simp [hr, hclr]) hvL
  have hv_ := Rep.sl (xs := L.map csD) hLrep
  obtain ⟨bL, cL, rfl, _⟩ := hv_
  rw [List.length_map] at hvL hLrep
  have hLs : Sl μ' 1 bL L.length (L.map csD) := (Cls.sl hLrep).1
  obtain ⟨pv, hpv⟩ : ∃ pv : Option Addr × Nat, pv = (bL, cL) := ⟨_, rfl⟩
  rw [show bL = pv.1 by rw [hpv]] at hvL hLs
  rw [show cL = pv.2 by rw [hpv]] at hvL
  clear hpv hLrep
  refine elem_intro hel ?_
  intro r13
  refine num_eq (x := ((a + lo : Nat) : Int)) (by rw [wrap64 (by omega) (by omega)]; omega) ?_
  refine call_plain (ways_spec (size := U.length) (n := a + lo) (most := 4096) hU1 hU8 (by omega) (by omega) (by omega)) fun v4 μ4 hle4 hR4 => ?_
  obtain ⟨⟨W, rfl, hW1, _⟩, e4⟩ := hR4
  obtain rfl := e4.symm
  have hv_ := hW1 hWle
  obtain rfl := hv_
  refine rel_intro i rfl (by omega) ?_
  refine get_intro _ hvL ?_
  generalize hpre : (p.rels.take i).flatMap (rulesR U) = pre at *
  have hP : ∀ k w cl, L[k]? = some cl → w ≤ U.length ^ (a + lo) → 2000 < (pre ++ rulesC U r L k ++ rulesW U r k cl w).length → ∀ μx : Mem, optRu (fun y tv => RepV μx (.sl 6 ((y.map Ru.rd).map RuD.d)) tv) (groundR p U) (.tuple #[.slice none 0 0, .bool false]) := fun k w cl hcl hw hbig μx => by
    rw [groundR, if_neg fun kk => ?_]; rfl
    have h1 : (rulesP p U).length ≥ ((p.rels.take (i + 1)).flatMap (rulesR U)).length := by
      conv => lhs; rw [rulesP, ← List.take_append_drop (i + 1) p.rels]
      rw [List.flatMap_append, List.length_append]; omega
    have h2 : rulesR U r = rulesC U r L L.length := by rw [rulesR, hL]
    have h3 : ∀ m, k + 1 + m ≤ L.length → (rulesC U r L (k + 1)).length ≤ (rulesC U r L (k + 1 + m)).length := fun m => by
      induction m with
      | zero => intro _; exact Nat.le_refl _
      | succ m ih =>
        intro hm
        have hv_ := at_some (l := L) (i := k + 1 + m) (by omega)
        obtain ⟨c2, hc2⟩ := hv_
        rw [show k + 1 + (m + 1) = k + 1 + m + 1 by omega, rulesC_succ hc2, List.length_append]
        have := ih (by omega)
        omega
    have hkl := (List.getElem?_eq_some_iff.1 hcl).1
    have h4 := h3 (L.length - (k + 1)) (by omega)
    rw [show k + 1 + (L.length - (k + 1)) = L.length by omega, rulesC_succ hcl, hnn] at h4
    have hv_ := rulesW_prefix (U := U) (r := r) (i := k) (c := cl) (w := w) (U.length ^ (a + lo) - w)
    obtain ⟨X, hX⟩ := hv_
    rw [show w + (U.length ^ (a + lo) - w) = U.length ^ (a + lo) by omega] at hX
    rw [hX] at h4
    rw [rulesP_take hr, hpre, h2, List.length_append] at h1
    simp only [List.length_append] at h4 hbig
    have := kk.2
    omega
  refine loop_intro (fun z : Nat × Option Nat × Nat × List Value × Mem => z.1 ≤ L.length ∧ μ2.Le z.2.2.2.2 ∧ Rows z.2.2.2.2 6 (((pre ++ rulesC U r L z.1).map Ru.rd).map RuD.d) z.2.2.2.1 ∧ (pre ++ rulesC U r L z.1).length ≤ 2000)
    (fun (k, ob, oc, os, μ5) => ⟨[(1, .val (.slice ub U.length uc)), (6, .row 1 b ys.length c), (11, .row 2 ob os.length oc), (13, .loc 3 r13 0), (14, .val (.int .i64 ((a + lo : Nat) : Int))), (15, .val (.int .i64 ((U.length ^ (a + lo) : Nat) : Int))), (62, .val (.slice q.1 p.rels.length q.2)), (63, .val (.int .i64 p.rels.length)), (64, .val (.int .i64 i)), (81, .val (.slice pv.1 L.length pv.2)), (82, .val (.int .i64 L.length)), (83, .val (.int .i64 k))], [(1, some (.row b c 157 1 ys)), (2, some (.row ob oc 242 6 os)), (3, some (.cells r13 [.val (.string r.name), .val (.int .i64 r.arity), .val (.int .i64 r.locals), .val (.int .i64 r.body.kind), .val (.string r.body.name), .val (.slice q2.1.1 r.body.terms.length q2.1.2), .val (.slice q2.2.1 r.body.goals.length q2.2.2)] 143))], 4, μ5, Mem.nil⟩) (fun z => L.length - z.1)
    (0, ob, oc, os, μ2) ⟨Nat.zero_le _, Mem.Le.refl _, by simpa [rulesC] using hrows, by simpa [rulesC] using hroom⟩ (fun (_, _, _, _, _) => ⟨rfl, rfl⟩) ⟨⟨rfl, rfl, rfl, rfl, rfl, rfl, rfl, rfl, rfl, rfl, rfl, rfl, trivial⟩, ⟨rfl, rfl, rfl, trivial⟩, rfl, rfl⟩ ?_
  clear hrows hroom hol
  rintro ⟨k, ob, oc, os, μ5⟩ ⟨hk, hle5, hrows, hroom⟩
  dsimp only at hk hle5 hrows hroom
  refine ifd (fun hltk => ?_) (fun hltk => ?_)
  rotate_left
  · obtain rfl : k = L.length := by omega
    have e : rulesR U r = rulesC U r L L.length := by rw [rulesR, hL]
    refine num64 (by omega) (by omega) ⟨(i + 1, ob, oc, os, μ5), ⟨by dsimp only; omega, hle2.trans hle5, ?_, ?_⟩, by dsimp only; omega, ⟨⟨rfl, rfl, rfl, rfl, rfl, rfl, trivial⟩, ⟨rfl, rfl, trivial⟩, rfl, rfl⟩⟩
    · dsimp only
      rw [rulesP_take hr, hpre, e]; exact hrows
    · dsimp only
      rw [rulesP_take hr, hpre, e]; exact hroom
  have hv_ := at_some (l := L) (i := k) (by omega)
  obtain ⟨cl, hcl⟩ := hv_
  have hv_ := cls_elem ((hLs.mono hle2).mono hle5) hcl
  obtain ⟨adc, pc, helc, hrc⟩ := hv_
  have hcs : Sl μ5 4 pc.1 cl.length (cl.map Gl.d) := by
    have hv_ := Rep.sl (xs := cl.map Gl.d) hrc
    obtain ⟨b', c', e1, hs⟩ := hv_
    have hv_ := Value.slice.inj e1
    obtain ⟨rfl, _, _⟩ := hv_
    simpa using hs
  have hcb := hLb.1 cl (mem_at hcl)
  have hsucc := rulesC_succ (U := U) (r := r) hcl
  rw [hnn] at hsucc
  refine elem_intro helc ?_
  refine loop_frz (fun z : Nat × Option Nat × Nat × List Value × Mem => z.1 ≤ U.length ^ (a + lo) ∧ μ5.Le z.2.2.2.2 ∧ Rows z.2.2.2.2 6 (((pre ++ rulesC U r L k ++ rulesW U r k cl z.1).map Ru.rd).map RuD.d) z.2.2.2.1 ∧ (pre ++ rulesC U r L k ++ rulesW U r k cl z.1).length ≤ 2000)
    (fun (w, ob, oc, os, μ6) => ⟨[(1, .val (.slice ub U.length uc)), (6, .row 1 b ys.length c), (11, .row 2 ob os.length oc), (13, .loc 3 r13 0), (14, .val (.int .i64 ((a + lo : Nat) : Int))), (15, .val (.int .i64 ((U.length ^ (a + lo) : Nat) : Int))), (16, .val (.int .i64 k)), (17, .val (.slice pc.1 cl.length pc.2)), (18, .val (.int .i64 (w : Nat))), (62, .val (.slice q.1 p.rels.length q.2)), (63, .val (.int .i64 p.rels.length)), (64, .val (.int .i64 i)), (81, .val (.slice pv.1 L.length pv.2)), (82, .val (.int .i64 L.length)), (83, .val (.int .i64 k))], [(1, some (.row b c 157 1 ys)), (2, some (.row ob oc 242 6 os)), (3, some (.cells r13 [.val (.string r.name), .val (.int .i64 r.arity), .val (.int .i64 r.locals), .val (.int .i64 r.body.kind), .val (.string r.body.name), .val (.slice q2.1.1 r.body.terms.length q2.1.2), .val (.slice q2.2.1 r.body.goals.length q2.2.2)] 143))], 4, μ6, Mem.nil⟩) (fun z => U.length ^ (a + lo) - z.1) []
    (fun (_, _, _, _, _) => ⟨rfl, rfl⟩) ⟨(0, ob, oc, os, μ5), ⟨Nat.zero_le _, Mem.Le.refl _, by simpa [rulesW] using hrows, by simpa [rulesW] using hroom⟩, ⟨⟨rfl, rfl, rfl, rfl, rfl, rfl, rfl, rfl, rfl, rfl, rfl, rfl, rfl, rfl, rfl, trivial⟩, ⟨rfl, rfl, rfl, trivial⟩, rfl, rfl⟩⟩ ?_
  clear hrows hroom
  rintro ⟨w, ob, oc, os, μ6⟩ ⟨hw6, hle6, hrows, hroom⟩
  dsimp only at hw6 hle6 hrows hroom
  have hol := hrows.len
  simp only [List.length_map] at hol
  refine ifd (fun hltw => ?_) (fun hltw => ?_)
  rotate_left
  · obtain rfl : w = U.length ^ (a + lo) := by omega
    refine num64 (by omega) (by omega) ⟨(k + 1, ob, oc, os, μ6), ⟨by dsimp only; omega, hle5.trans hle6, ?_, ?_⟩, by dsimp only; omega, ⟨⟨rfl, rfl, rfl, rfl, rfl, rfl, rfl, rfl, rfl, rfl, rfl, rfl, trivial⟩, ⟨rfl, rfl, rfl, trivial⟩, rfl, rfl⟩⟩
    · dsimp only
      rw [hsucc, ← List.append_assoc]; exact hrows
    · dsimp only
      rw [hsucc, ← List.append_assoc]; exact hroom
  have hdl := digs_len U (a + lo) w
  generalize hvs : digs U (a + lo) w = vs at *
  have hu6 := ((((hu.mono hle).mono hle2).mono hle5).mono hle6)
  refine make_intro (a + lo) rfl rfl (by simp only; omega) (Nat.le_trans (m := 1000) (by omega) (by decide)) ?_
  intro r94
  refine loop_intro (fun z : Nat × List Value => z.1 ≤ a + lo ∧ Fill μ6 vs (a + lo) z.1 z.2)
    (fun (j, xs) => ⟨[(1, .val (.slice ub U.length uc)), (6, .row 1 b ys.length c), (11, .row 2 ob os.length oc), (13, .loc 3 r13 0), (14, .val (.int .i64 ((a + lo : Nat) : Int))), (15, .val (.int .i64 ((U.length ^ (a + lo) : Nat) : Int))), (16, .val (.int .i64 k)), (17, .val (.slice pc.1 cl.length pc.2)), (18, .val (.int .i64 (w : Nat))), (19, .row 4 (some r94) (a + lo) (a + lo)), (20, .val (.int .i64 ((w / U.length ^ j : Nat) : Int))), (21, .val (.int .i64 j)), (62, .val (.slice q.1 p.rels.length q.2)), (63, .val (.int .i64 p.rels.length)), (64, .val (.int .i64 i)), (81, .val (.slice pv.1 L.length pv.2)), (82, .val (.int .i64 L.length)), (83, .val (.int .i64 k))], [(1, some (.row b c 157 1 ys)), (2, some (.row ob oc 242 6 os)), (3, some (.cells r13 [.val (.string r.name), .val (.int .i64 r.arity), .val (.int .i64 r.locals), .val (.int .i64 r.body.kind), .val (.string r.body.name), .val (.slice q2.1.1 r.body.terms.length q2.1.2), .val (.slice q2.2.1 r.body.goals.length q2.2.2)] 143)), (4, some (.row (some r94) (a + lo) 44 4 xs))], 5, μ6, Mem.nil⟩) (fun z => a + lo - z.1)
    (0, _) ⟨Nat.zero_le _, Fill.start⟩ (fun (_, _) => ⟨rfl, rfl⟩) ⟨⟨rfl, rfl, rfl, rfl, rfl, rfl, rfl, rfl, rfl, rfl, by rw [Nat.pow_zero, Nat.div_one]; rfl, rfl, rfl, rfl, rfl, rfl, rfl, rfl, trivial⟩, ⟨rfl, rfl, rfl, rfl, trivial⟩, rfl, rfl⟩ ?_
  rintro ⟨j, xs⟩ ⟨hj, hfill⟩
  dsimp only at hj hfill
  have hxl := hfill.len
  have hdw : w / U.length ^ j ≤ w := Nat.div_le_self _ _
  refine ifd (fun hltj => ?_) (fun hltj => ?_)
  · refine need_intro (by omega) ?_
    refine num_eq (x := ((w / U.length ^ j % U.length : Nat) : Int)) rfl ?_
    have hv_ := digs_elem hu6 (by omega) (w / U.length ^ j)
    obtain ⟨ad2, p2, hel2, hr2⟩ := hv_
    refine elem_intro hel2 ?_
    refine rel_intro j rfl (by omega) ?_
    refine get_intro _ (hfill.rest j (by omega) (by omega)) ?_
    refine need_intro (by omega) ?_
    refine num_eq (x := ((w / U.length ^ (j + 1) : Nat) : Int)) ?_ ?_
    · have e : w / U.length ^ (j + 1) = w / U.length ^ j / U.length := by rw [Nat.pow_succ, Nat.div_div_eq_div_mul]
      rw [e]
      have hd2 : w / U.length ^ j / U.length ≤ w / U.length ^ j := Nat.div_le_self _ _
      show IntKind.i64.wrap ((w / U.length ^ j / U.length : Nat) : Int) = _
      generalize w / U.length ^ j / U.length = m at hd2 ⊢
      exact wrap64 (by omega) (by omega)
    have hg := digs_get U j (a + lo) w (by omega)
    rw [hvs] at hg
    exact num64 (by omega) (by omega) ⟨(j + 1, _), ⟨by dsimp only; omega, hfill.step hg hr2 (by omega)⟩, by dsimp only; omega, ⟨⟨rfl, rfl, rfl, rfl, rfl, rfl, rfl, rfl, rfl, rfl, rfl, rfl, rfl, rfl, rfl, rfl, rfl, rfl, trivial⟩, ⟨rfl, rfl, rfl, rfl, trivial⟩, rfl, rfl⟩⟩
  obtain rfl : j = a + lo := by omega
  have hvrows := hfill.all hdl
  refine cut_intro 0 a rfl ha (Nat.zero_le _) (by omega) ?_
  intro r22
  refine loop_frzN (fun z : Nat × Bool × (Option Nat × Nat × List Value) × (Option Nat × Nat × List Value) × Mem => z.1 ≤ cl.length ∧ μ6.Le z.2.2.2.2 ∧ RowAt z.2.2.2.2 (some r94) (a + lo) 4 xs ∧ Rows z.2.2.2.2 2 (((posF vs (cl.take z.1)).map F.fc).map Fc.d) z.2.2.1.2.2 ∧ Rows z.2.2.2.2 2 (((negF vs (cl.take z.1)).map F.fc).map Fc.d) z.2.2.2.1.2.2 ∧ (z.2.1 = true ↔ ∀ g ∈ cl.take z.1, okG U vs g))
    (fun (m, f, (pb, pc2, ps), (nb, nc, ns), μ7) => ⟨[(1, .val (.slice ub U.length uc)), (6, .row 1 b ys.length c), (11, .row 2 ob os.length oc), (13, .loc 3 r13 0), (14, .val (.int .i64 ((a + lo : Nat) : Int))), (15, .val (.int .i64 ((U.length ^ (a + lo) : Nat) : Int))), (16, .val (.int .i64 k)), (17, .val (.slice pc.1 cl.length pc.2)), (18, .val (.int .i64 (w : Nat))), (19, .val (.slice (some ⟨r94, 0, none⟩) (a + lo) (a + lo))), (22, .loc 5 r22 0), (23, .val (.bool f)), (62, .val (.slice q.1 p.rels.length q.2)), (63, .val (.int .i64 p.rels.length)), (64, .val (.int .i64 i)), (81, .val (.slice pv.1 L.length pv.2)), (82, .val (.int .i64 L.length)), (83, .val (.int .i64 k)), (125, .val (.slice pc.1 cl.length pc.2)), (126, .val (.int .i64 cl.length)), (127, .val (.int .i64 m))], [(1, some (.row b c 157 1 ys)), (2, some (.row ob oc 242 6 os)), (3, some (.cells r13 [.val (.string r.name), .val (.int .i64 r.arity), .val (.int .i64 r.locals), .val (.int .i64 r.body.kind), .val (.string r.body.name), .val (.slice q2.1.1 r.body.terms.length q2.1.2), .val (.slice q2.2.1 r.body.goals.length q2.2.2)] 143)), (5, some (.cells r22 [.val (.string r.name), .val (.slice (if a + lo = 0 then ((some r94).map fun r => (⟨r, 0, none⟩ : Addr)) else ((some r94).map fun r => (⟨r, 0, none⟩ : Addr)).map (·.add (0 * 4))) (a - 0) (a + lo - 0)), .val (.int .i64 k), .val (.slice (some ⟨r94, 0, none⟩) (a + lo) (a + lo)), .row 6 pb ps.length pc2, .row 7 nb ns.length nc] 242)), (6, some (.row pb pc2 189 2 ps)), (7, some (.row nb nc 189 2 ns))], 8, μ7, Mem.nil⟩) (fun z => cl.length - z.1) [4]
    (fun (_, _, (_, _, _), (_, _, _), _) => ⟨rfl, rfl⟩) ?_ ?_
  · intro μv hlev hnov hatv
    refine ⟨(0, true, (none, 0, []), (none, 0, []), μv), ⟨Nat.zero_le _, hlev, hatv, .nil, .nil, by simp⟩, ?_⟩
    exact ⟨⟨⟨_, rfl, .inl rfl⟩, ⟨_, rfl, .inl rfl⟩, ⟨_, rfl, .inl rfl⟩, ⟨_, rfl, .inl rfl⟩, ⟨_, rfl, .inl rfl⟩, ⟨_, rfl, .inl rfl⟩, ⟨_, rfl, .inl rfl⟩, ⟨_, rfl, .inl rfl⟩, ⟨_, rfl, .inl rfl⟩, ⟨_, rfl, .inl rfl⟩, ⟨_, rfl, .inl rfl⟩, ⟨_, rfl, .inl rfl⟩, ⟨_, rfl, .inl rfl⟩, ⟨_, rfl, .inl rfl⟩, ⟨_, rfl, .inl rfl⟩, ⟨_, rfl, .inl rfl⟩, ⟨_, rfl, .inl rfl⟩, ⟨_, rfl, .inl rfl⟩, ⟨_, rfl, .inl rfl⟩, ⟨_, rfl, .inl rfl⟩, ⟨_, rfl, .inl rfl⟩, trivial⟩, ⟨.inl rfl, .inl rfl, .inl rfl, .inr (.inr ⟨_, _, _, _, rfl, rfl, .inl rfl, .inl rfl, .inl rfl, .inl rfl, .inr ⟨6, rfl, rfl, Nat.le_refl _⟩, .inr ⟨7, rfl, rfl, Nat.le_succ 6⟩, trivial⟩), .inr (.inl ⟨_, _, rfl, Nat.le_refl _⟩), .inr (.inl ⟨_, _, rfl, Nat.le_succ 6⟩), trivial⟩, rfl, rfl⟩
  rintro ⟨m, f, ⟨pb, pc2, ps⟩, ⟨nb, nc, ns⟩, μ7⟩ ⟨hm, hle7, hat7, hps, hns, hf⟩
  dsimp only at hm hle7 hat7 hps hns hf
  have hpl := hps.len
  have hnl := hns.len
  have hpf := posF_le (vs := vs) (c := cl.take m)
  have hnf := negF_le (vs := vs) (c := cl.take m)
  rw [List.length_take] at hpf hnf
  simp only [List.length_map] at hpl hnl
  have hnext := rulesW_succ U r k cl w
  have skipE : ¬ (∀ g ∈ cl, okG U vs g) → rulesW U r k cl (w + 1) = rulesW U r k cl w := fun h => by rw [hnext, ruleAt, hnn, hvs, if_neg h, Option.toList_none, List.append_nil]
  have skip : ¬ (∀ g ∈ cl, okG U vs g) → ∀ μ8, μ7.Le μ8 → Rows μ8 6 (((pre ++ rulesC U r L k ++ rulesW U r k cl (w + 1)).map Ru.rd).map RuD.d) os := fun h μ8 h8 => by
    rw [skipE h]; exact (hrows.mono hle7).mono h8
  have skipL : ¬ (∀ g ∈ cl, okG U vs g) → (pre ++ rulesC U r L k ++ rulesW U r k cl (w + 1)).length ≤ 2000 := fun h => by rw [skipE h]; exact hroom
  -- no rule is made
  refine ifd (fun hltm => ?_) (fun hltm => ?_)
  rotate_left
  · obtain rfl : m = cl.length := by omega
    rw [List.take_length] at hf hps hns
    refine if_intro (fun hb => ?_) (fun hb => ?_)
    · have hOk := hf.1 hb
      have hat1 : ruleAt U r k cl w = some (ruleOf r k cl vs) := by rw [ruleAt, hnn, hvs, if_pos hOk]
      intro r177
      refine grow_intro ?_ ?_ fun b' c' _ => ?_
      · show (os.length + 1) * 120 ≤ _; omega
      · exact Nat.le_trans (m := 100000) (show os.length + 1 ≤ _ by omega) (by decide)
      have hnew : (pre ++ rulesC U r L k ++ rulesW U r k cl (w + 1)).length = os.length + 1 := by
        rw [hnext, hat1, Option.toList_some, ← List.append_assoc, List.length_append, List.length_singleton]; omega
      refine ifd (fun hbig => ?_) (fun hbig => ?_)
      · rw [List.length_append, List.length_singleton] at hbig
        exact ret_plain (hP k (w + 1) cl hcl (by omega) (by omega) _)
      rw [List.length_append, List.length_singleton] at hbig
      refine num64 (by omega) (by omega) ⟨[6, 7], fun μ8 hle8 hno8 hat8 μ9 hle9 hno9 hat9 => ⟨(w + 1, b', c', _, μ9), ⟨by dsimp only; omega, ((hle6.trans hle7).trans hle8).trans hle9, ?_, by dsimp only; omega⟩, by dsimp only; omega, ⟨⟨rfl, rfl, rfl, rfl, rfl, rfl, rfl, rfl, rfl, rfl, rfl, rfl, rfl, rfl, rfl, trivial⟩, ⟨rfl, rfl, rfl, trivial⟩, rfl, rfl⟩⟩⟩
      dsimp only
      rw [hnext, hat1, Option.toList_some, ← List.append_assoc, List.map_append, List.map_append]
      refine (((hrows.mono hle7).mono hle8).mono hle9).append (Rows.one ?_ (RuD.d_n _))
      have hmax : (1000 : Nat) ≤ maxLen := by decide
      have hvr := (hvrows.mono hle7)
      have k1 := headSl hat7 hvr (a := a) (by omega) (by omega)
      have k2 := Rows.sl hat7 hvr (Nat.le_trans (m := 1000) (by omega) hmax)
      have k3 := Rows.sl hat8 (hps.mono hle8) (Nat.le_trans (m := 1000) (by omega) hmax)
      have k4 := Rows.sl hat9 ((hns.mono hle8).mono hle9) (Nat.le_trans (m := 1000) (by omega) hmax)
      rw [hxl] at k2
      rw [RuD.d_eq]
      have ea : r.arity.toNat = a := by omega
      show RepV μ9 (.st [.s r.name, .sl 4 (((vs.take r.arity.toNat).map T.tm).map Tm.d), .i (k : Int), .sl 4 ((vs.map T.tm).map Tm.d), .sl 2 (((posF vs cl).map F.fc).map Fc.d), .sl 2 (((negF vs cl).map F.fc).map Fc.d)]) _
      rw [ea]
      exact ⟨_, rfl, RepS.str (RepS.cons1 ((k1.mono hle8).mono hle9) (RepS.int (RepS.cons1 ((k2.mono hle8).mono hle9) (RepS.cons1 (k3.mono hle9) (RepS.last k4)))))⟩
    · have hno : ¬ ∀ g ∈ cl, okG U vs g := fun h => by rw [hf.2 h] at hb; cases hb
      refine ifd (fun h => by omega) (fun _ => ?_)
      exact num64 (by omega) (by omega) ⟨[], (w + 1, ob, oc, os, μ7), ⟨by dsimp only; omega, hle6.trans hle7, skip hno μ7 (Mem.Le.refl _), skipL hno⟩, by dsimp only; omega, ⟨⟨rfl, rfl, rfl, rfl, rfl, rfl, rfl, rfl, rfl, rfl, rfl, rfl, rfl, rfl, rfl, trivial⟩, ⟨rfl, rfl, rfl, trivial⟩, rfl, rfl⟩⟩
  have hv_ := at_some (l := cl) (i := m) (by omega)
  obtain ⟨g, hg⟩ := hv_
  have hv_ := Gl.elem (((hcs.mono hle6).mono hle7)) hg
  obtain ⟨adg, pg, helg, hrg⟩ := hv_
  have hG := ClG.of hok hr hL (mem_at hcl) (mem_at hg)
  have hv_ := ClV.of hok hr hL (mem_at hcl) (mem_at hg) (n := a + lo) (by omega)
  obtain ⟨⟨gx, hgx⟩, hkx⟩ := hv_
  refine elem_intro helg ?_
  intro r25
  refine if_intro (fun hb => ?_) (fun hb => ?_)
  · have hb : f = false := by simpa using hb
    subst hb
    have hno : ¬ ∀ g ∈ cl, okG U vs g := fun h => by
      have := hf.2 fun x hx => h x (List.mem_of_mem_take hx)
      cases this
    refine if_intro (fun h => nomatch h) (fun _ => ?_)
    refine ifd (fun h => by omega) (fun _ => ?_)
    exact num64 (by omega) (by omega) ⟨[], (w + 1, ob, oc, os, μ7), ⟨by dsimp only; omega, hle6.trans hle7, skip hno μ7 (Mem.Le.refl _), skipL hno⟩, by dsimp only; omega, ⟨⟨rfl, rfl, rfl, rfl, rfl, rfl, rfl, rfl, rfl, rfl, rfl, rfl, rfl, rfl, rfl, trivial⟩, ⟨rfl, rfl, rfl, trivial⟩, rfl, rfl⟩⟩
  have hb : f = true := by simpa using hb
  have hf1 := hf.1 hb
  have hall : ∀ bb : Bool, (bb = true ↔ okG U vs g) → (bb = true ↔ ∀ x ∈ cl.take (m + 1), okG U vs x) := fun bb h => by
    rw [h, List.take_add_one, hg, Option.toList_some]
    constructor
    · intro k x hx
      rcases List.mem_append.1 hx with hx | hx
      · exact hf1 x hx
      · rw [List.mem_singleton.1 hx]; exact k
    · exact fun k => k g (by simp)
  have hvsl : Sl μ7 4 (some ⟨r94, 0, none⟩) vs.length ((vs.map T.tm).map Tm.d) := by
    have k2 := Rows.sl hat7 (hvrows.mono hle7) (Nat.le_trans (m := 1000) (by omega) (by decide))
    have hv_ := Rep.sl k2
    obtain ⟨bz, cz, ez, hs⟩ := hv_
    have hv_ := Value.slice.inj ez
    obtain ⟨e1, e2, _⟩ := hv_
    rw [← e1] at hs
    simpa using hs
  have hu7 := hu6.mono hle7
  refine ifd (fun h9 => ?_) (fun h9 => ?_)
  · have hcall := callFact_spec (vc := a + lo) hvsl hrg hgx.terms hgx.len (fun x hx n hn => by have := hgx.low x hx n hn; omega)
    rw [hdl] at hcall
    refine call_plain hcall fun v8 μ8 hle8 hR8 => ?_
    have hv_ := F.inv (f := callF vs g) hR8
    obtain ⟨pf, rfl, hfs⟩ := hv_
    intro r26
    refine call_gives (inUniverse_spec (U := U) (l := (callF vs g).args) (hu7.mono hle8) hfs) ?_
    intro r150
    refine grow_intro ?_ ?_ fun b' c' _ => ?_
    · show (ps.length + 1) * 40 ≤ _; omega
    · exact Nat.le_trans (m := 100000) (show ps.length + 1 ≤ _ by omega) (by decide)
    refine num64 (by omega) (by omega) ⟨[], (m + 1, decide (∀ a ∈ (callF vs g).args, a ∈ U), (b', c', _), (nb, nc, ns), μ8), ⟨by dsimp only; omega, hle7.trans hle8, RowAt.up hat7 hle8, ?_, ?_, hall _ (by rw [decide_eq_true_eq, okG_9 h9])⟩, by dsimp only; omega, ⟨⟨rfl, rfl, rfl, rfl, rfl, rfl, rfl, rfl, rfl, rfl, rfl, rfl, rfl, rfl, rfl, rfl, rfl, rfl, rfl, rfl, rfl, trivial⟩, ⟨rfl, rfl, rfl, rfl, rfl, rfl, trivial⟩, rfl, rfl⟩⟩
    · dsimp only
      rw [posF_succ hg, if_pos h9]
      simp only [List.map_append, List.map_cons, List.map_nil]
      exact (hps.mono hle8).append (Rows.one hR8 (Fc.d_n _))
    · dsimp only
      rw [negF_succ hg, if_neg (by omega), List.append_nil]
      exact hns.mono hle8
  refine ifd (fun h10 => ?_) (fun h10 => ?_)
  · have hgl := hG.sh.top.gl1 h10
    have hv_ := hkx h10
    obtain ⟨kx, hkx⟩ := hv_
    have hv_ := Gl.inv hrg
    obtain ⟨q1, e1, _, hgs⟩ := hv_
    have hv_ := Gl.elem hgs (Gl.kid_at hgl)
    obtain ⟨ad2, pk, hel2, hrk⟩ := hv_
    have hp : q1 = pg := by
      have h2 := congrArg (fun v => match v with | Value.agg a => (a[2]?, a[3]?) | _ => (none, none)) e1
      simp [Gl.cs] at h2
      exact Prod.ext (Prod.ext h2.1.1.symm h2.1.2.symm) (Prod.ext h2.2.1.symm h2.2.2.symm)
    subst hp
    refine elem_intro hel2 ?_
    have hcall := callFact_spec (vc := a + lo) hvsl hrk hkx.terms hkx.len (fun x hx n hn => by have := hkx.low x hx n hn; omega)
    rw [hdl] at hcall
    refine call_plain hcall fun v8 μ8 hle8 hR8 => ?_
    have hv_ := F.inv (f := callF vs g.kid) hR8
    obtain ⟨pf, rfl, hfs⟩ := hv_
    intro r27
    refine call_gives (inUniverse_spec (U := U) (l := (callF vs g.kid).args) (hu7.mono hle8) hfs) ?_
    intro r170
    refine grow_intro ?_ ?_ fun b' c' _ => ?_
    · show (ns.length + 1) * 40 ≤ _; omega
    · exact Nat.le_trans (m := 100000) (show ns.length + 1 ≤ _ by omega) (by decide)
    refine num64 (by omega) (by omega) ⟨[], (m + 1, decide (∀ a ∈ (callF vs g.kid).args, a ∈ U), (pb, pc2, ps), (b', c', _), μ8), ⟨by dsimp only; omega, hle7.trans hle8, RowAt.up hat7 hle8, ?_, ?_, hall _ (by rw [decide_eq_true_eq, okG_10 h10])⟩, by dsimp only; omega, ⟨⟨rfl, rfl, rfl, rfl, rfl, rfl, rfl, rfl, rfl, rfl, rfl, rfl, rfl, rfl, rfl, rfl, rfl, rfl, rfl, rfl, rfl, trivial⟩, ⟨rfl, rfl, rfl, rfl, rfl, rfl, trivial⟩, rfl, rfl⟩⟩
    · dsimp only
      rw [posF_succ hg, if_neg h9, List.append_nil]
      exact hps.mono hle8
    · dsimp only
      rw [negF_succ hg, if_pos h10]
      simp only [List.map_append, List.map_cons, List.map_nil]
      exact (hns.mono hle8).append (Rows.one hR8 (Fc.d_n _))
  have htrue := trueWith_spec (vc := a + lo) hvsl hrg hgx.terms hgx.len (fun x hx n hn => by have := hgx.low x hx n hn; omega) (by have := hG.simple; rwa [hgx.terms, List.length_map] at this)
  rw [hdl] at htrue
  refine call_plain htrue fun v8 μ8 hle8 hR8 => ?_
  obtain rfl := hR8
  refine num64 (by omega) (by omega) ⟨[], (m + 1, decide (testT g.kind (gx.map (T.subst (valF vs)))), (pb, pc2, ps), (nb, nc, ns), μ8), ⟨by dsimp only; omega, hle7.trans hle8, RowAt.up hat7 hle8, ?_, ?_, hall _ (by rw [decide_eq_true_eq, okG_else h9 h10 hgx.terms])⟩, by dsimp only; omega, ⟨⟨rfl, rfl, rfl, rfl, rfl, rfl, rfl, rfl, rfl, rfl, rfl, rfl, rfl, rfl, rfl, rfl, rfl, rfl, rfl, rfl, rfl, trivial⟩, ⟨rfl, rfl, rfl, rfl, rfl, rfl, trivial⟩, rfl, rfl⟩⟩
  · dsimp only
    rw [posF_succ hg, if_neg h9, List.append_nil]
    exact hps.mono hle8
  · dsimp only
    rw [negF_succ hg, if_neg h10, List.append_nil]
    exact hns.mono hle8
end
end Go.Vx

/- Contracts: bases of facts, both sides. -/
namespace Go.Vx
open Go.Proofs Classical
/-- The first i facts of a list ascend. -/
def AscF (l : List F) (i : Nat) : Prop := ∀ j x y, j + 1 < i → l[j]? = some x → l[j + 1]? = some y → cmpF x y < 0
theorem AscF.next {l : List F} {i : Nat} (h : AscF l i) (hc : ∀ x y, 0 < i → l[i - 1]? = some x → l[i]? = some y → cmpF x y < 0) : AscF l (i + 1) := fun j x y hj hx hy => by
  rcases Nat.lt_or_ge (j + 1) i with h6 | h6
  · exact h j x y h6 hx hy
  · obtain rfl : i = j + 1 := by omega
    exact hc x y (by omega) hx hy
/-- A base of a positive program. -/
def BaseP (p : Pg) (u : List Tm) (b : List Fc) : Prop :=
  groundO p u ≠ none ∧ p.Pos ∧ (∀ f ∈ b, FactFits p f) ∧ (∀ f ∈ b.map Fc.f, ∀ a ∈ f.args, a ∈ u.map Tm.toT) ∧ AscF (b.map Fc.f) b.length
noncomputable def posRules (p : Pg) (u : List Tm) : Option (List Ru) := if p.Pos then groundO p u else none
theorem groundO_some {p : Pg} {u : List Tm} {y : List Ru} (h : groundO p u = some y) : p.Ok ∧ UnivOk u := by
  unfold groundO at h
  split at h
  · assumption
  · cases h
theorem F.fcs (L : List F) : (L.map F.fc).map Fc.f = L := by
  rw [List.map_map]
  conv => rhs; rw [← List.map_id L]
  exact List.map_congr_left fun f _ => F.fc_f f
section
variable {μ : Mem}
theorem inUniverse_any {p : Pg} {U : List T} {f : Fc} {ub lb : Option Addr} {uc lc : Nat} (hf : FactFits p f) (hu : Sl μ 4 ub U.length ((U.map T.tm).map Tm.d)) (hl : Sl μ 4 lb f.args.length (f.args.map Tm.d)) :
    Gives Tryz.prog 250 [.slice ub U.length uc, .slice lb f.args.length lc] μ (.bool (decide (∀ a ∈ f.f.args, a ∈ U))) := by
  have e : f.args = f.f.args.map T.tm := (congrArg Fc.args hf.lift.1).symm
  have el : f.args.length = f.f.args.length := (List.length_map ..).symm
  rw [el] at hl ⊢
  rw [e] at hl
  exact inUniverse_spec hu hl
theorem factFits_spec {p : Pg} {f : Fc} {v w : Value} (hp : RepV μ p.d v) (hf : RepV μ f.d w) :
    Gives Tryz.prog 249 [v, w] μ (.bool (decide (FactFits p f))) := by
  have hp0 := hp
  obtain ⟨q0, rfl, hrl⟩ := Pg.inv hp
  obtain ⟨q, rfl, hA⟩ := Fc.inv hf
  have hA : Sl μ 4 q.1 f.args.length (f.args.map Tm.d) := hA
  have hn := maxLen_le hA.max
  refine Spec.forget (Spec.mk Tryz.func249 (by kernel_rfl) ?_)
  intro r2 r3
  refine call_gives (relation_spec hp0) ?_
  refine ifd (fun hneg => ret_plain (isF fun k => ?_)) (fun hge => ?_)
  · obtain ⟨⟨k', r', h1, _⟩, _⟩ := k
    omega
  obtain ⟨k, r, hk, hr, _⟩ := relAt_get (show 0 ≤ relAt p f.rel by omega)
  have hfor := relFor_at hk hr
  rw [hk]
  obtain ⟨ad, q2, hel, _, _⟩ := Rl.elemA hrl hr
  refine elem_intro hel ?_
  refine ifnd (fun h => ret_plain (isF fun k => h (hfor.1 k.1))) (fun har => ?_)
  refine loop_intro (fun i : Nat => i ≤ f.args.length ∧ ∀ t ∈ f.args.take i, GndT t)
    (fun i => ⟨[(27, .val (.slice q.1 f.args.length q.2)), (28, .val (.int .i64 f.args.length)), (29, .val (.int .i64 i))], [], 2, μ, Mem.nil⟩) (fun i => f.args.length - i)
    0 ⟨Nat.zero_le _, by simp⟩ (fun _ => ⟨rfl, rfl⟩) ⟨⟨rfl, rfl, rfl, trivial⟩, trivial, rfl, rfl⟩ ?_
  rintro i ⟨hi, hall⟩
  refine ifd (fun hlt => ?_) (fun hlt => ?_)
  · obtain ⟨t, ht⟩ := at_some (l := f.args) (i := i) (by omega)
    obtain ⟨ad, pt, hel, hrt⟩ := Tm.elem hA ht
    refine elem_intro hel ?_
    intro r7
    refine call_gives (impl_IsGround_any t hrt) ?_
    refine ifnd (fun h => ret_plain (isF fun k => h (k.2 t (mem_at ht)))) (fun h => ?_)
    refine num64 (by omega) (by omega) ⟨i + 1, ⟨by omega, ?_⟩, by omega, ⟨⟨rfl, rfl, rfl, trivial⟩, trivial, rfl, rfl⟩⟩
    rw [List.take_add_one, ht, Option.toList_some]
    intro y hy
    rcases List.mem_append.1 hy with hy | hy
    · exact hall y hy
    · rw [List.mem_singleton.1 hy]; exact h
  · obtain rfl : i = f.args.length := by omega
    rw [List.take_length] at hall
    exact ret_plain (isT ⟨hfor.2 har, hall⟩)
theorem baseFits_spec {p : Pg} {U : List T} {b : List Fc} {v : Value} {ub fb : Option Addr} {uc fc : Nat} (hp : RepV μ p.d v) (hu : Sl μ 4 ub U.length ((U.map T.tm).map Tm.d)) (hb : Sl μ 2 fb b.length (b.map Fc.d)) :
    Gives Tryz.prog 164 [v, .slice ub U.length uc, .slice fb b.length fc] μ (.bool (decide ((∀ f ∈ b, FactFits p f) ∧ (∀ f ∈ b.map Fc.f, ∀ a ∈ f.args, a ∈ U) ∧ AscF (b.map Fc.f) b.length))) := by
  have hp0 := hp
  obtain ⟨q0, rfl, hrl⟩ := Pg.inv hp
  have hn := maxLen_le hb.max
  refine Spec.forget (Spec.mk Tryz.func164 (by kernel_rfl) ?_)
  intro r3
  refine loop_intro (fun i : Nat => i ≤ b.length ∧ (∀ f ∈ b.take i, FactFits p f ∧ ∀ a ∈ f.f.args, a ∈ U) ∧ AscF (b.map Fc.f) i)
    (fun i => ⟨[(1, .val (.slice ub U.length uc)), (2, .val (.slice fb b.length fc)), (3, .loc 0 r3 0), (9, .val (.slice fb b.length fc)), (10, .val (.int .i64 b.length)), (11, .val (.int .i64 i))], [(0, some (.cells r3 [.val (.slice q0.1 p.rels.length q0.2)] 67))], 1, μ, Mem.nil⟩) (fun i => b.length - i)
    0 ⟨Nat.zero_le _, by simp, fun j x y hj _ _ => by omega⟩ (fun _ => ⟨rfl, rfl⟩) ⟨⟨rfl, rfl, rfl, rfl, rfl, rfl, trivial⟩, ⟨rfl, trivial⟩, rfl, rfl⟩ ?_
  rintro i ⟨hi, hall, hasc⟩
  refine ifd (fun hlt => ?_) (fun hlt => ?_)
  · obtain ⟨f, hf⟩ := at_some (l := b) (i := i) (by omega)
    have hfm := mem_at hf
    have hv_ := Fc.elemA hb hf
    obtain ⟨ad, q, hel, hrf, hA⟩ := hv_
    have hA : Sl μ 4 q.1 f.args.length (f.args.map Tm.d) := hA
    refine elem_intro hel ?_
    intro r8
    refine call_gives (factFits_spec hp0 hrf) ?_
    refine ifnd (fun h => ret_plain (isF fun k => h (k.1 f hfm))) (fun hfit => ?_)
    refine call_gives (inUniverse_any hfit hu hA) ?_
    refine ifnd (fun h => ret_plain (isF fun k => h (k.2.1 f.f (List.mem_map_of_mem hfm)))) (fun hin => ?_)
    have hall' : ∀ x ∈ b.take (i + 1), FactFits p x ∧ ∀ a ∈ x.f.args, a ∈ U := by
      rw [List.take_add_one, hf, Option.toList_some]
      intro y hy
      rcases List.mem_append.1 hy with hy | hy
      · exact hall y hy
      · rw [List.mem_singleton.1 hy]; exact ⟨hfit, hin⟩
    have hfe : (b.map Fc.f)[i]? = some f.f := by rw [List.getElem?_map, hf]; rfl
    refine ifd (fun hi0 => ?_) (fun hi0 => ?_)
    · have hv_ := at_some (l := b) (i := i - 1) (by omega)
      obtain ⟨g, hg⟩ := hv_
      have hv_ := Fc.elemA hb hg
      obtain ⟨ad', q', hel', hrg, _⟩ := hv_
      have hgfit := (hall g (by rw [List.mem_iff_getElem?]; exact ⟨i - 1, by rw [List.getElem?_take, if_pos (by omega)]; exact hg⟩)).1
      have hge : (b.map Fc.f)[i - 1]? = some g.f := by rw [List.getElem?_map, hg]; rfl
      refine num64 (by omega) (by omega) ?_
      refine elem_intro (by rw [show ((i : Int) - 1) = ((i - 1 : Nat) : Int) by omega]; exact hel') ?_
      refine call_gives (orderFacts_spec (f := g.f) (g := f.f) (by rw [hgfit.lift.1]; exact hrg) (by rw [hfit.lift.1]; exact hrf)) ?_
      refine ifd (fun hc => ret_plain (isF fun k => ?_)) (fun hc => ?_)
      · have := k.2.2 (i - 1) g.f f.f (by omega) hge (by rw [show i - 1 + 1 = i by omega]; exact hfe)
        omega
      · refine num64 (by omega) (by omega) ⟨i + 1, ⟨by omega, hall', hasc.next fun x y _ hx hy => ?_⟩, by omega, ⟨⟨rfl, rfl, rfl, rfl, rfl, rfl, trivial⟩, ⟨rfl, trivial⟩, rfl, rfl⟩⟩
        rw [hge] at hx; rw [hfe] at hy; cases hx; cases hy
        omega
    · exact num64 (by omega) (by omega) ⟨i + 1, ⟨by omega, hall', hasc.next fun x y h0 _ _ => by omega⟩, by omega, ⟨⟨rfl, rfl, rfl, rfl, rfl, rfl, trivial⟩, ⟨rfl, trivial⟩, rfl, rfl⟩⟩
  · obtain rfl : i = b.length := by omega
    rw [List.take_length] at hall
    refine ret_plain (isT ⟨fun f hf => (hall f hf).1, fun f hf => ?_, hasc⟩)
    obtain ⟨x, hx, rfl⟩ := List.mem_map.1 hf
    exact (hall x hx).2
theorem positiveRules_spec {p : Pg} {u : List Tm} {v : Value} {ub : Option Addr} {uc : Nat} (hp : RepV μ p.d v) (hu : Sl μ 4 ub u.length (u.map Tm.d)) :
    Spec Tryz.prog 163 [v, .slice ub u.length uc] μ fun v μ' => optRu (fun y tv => RepV μ' (.sl 6 ((y.map Ru.rd).map RuD.d)) tv) (posRules p u) v := by
  have hp0 := hp
  obtain ⟨q, rfl, hrl⟩ := Pg.inv hp
  refine Spec.mk Tryz.func163 (by kernel_rfl) ?_
  intro r2
  refine call_plain (impl_IsPositive_spec hp0) fun v1 μ1 hle1 hR => ?_
  obtain rfl := hR
  refine ifnd (fun h => ret_plain (by rw [posRules, if_neg h]; rfl)) (fun hpos => ?_)
  refine call_gives (impl_UniverseOk_spec (hu.mono hle1)) ?_
  refine ifnd (fun h => ret_plain (by rw [posRules, if_pos hpos, groundO, if_neg fun k => h k.2]; rfl)) (fun huok => ?_)
  have hv_ := huok.lift
  obtain ⟨U, rfl, hUg, hUl⟩ := hv_
  have hgo : posRules p (U.map T.tm) = groundR p U := by rw [posRules, if_pos hpos, groundO, if_pos ⟨hpos.1, huok⟩, toTs_tm]
  rw [hgo]
  have h1 := huok.pos
  have h8 := huok.max
  rw [List.length_map] at h1 h8 hu ⊢
  refine call_plain (groundRules_spec (hp0.mono hle1) hpos.1 (hu.mono hle1) h1 h8) fun v2 μ2 hle2 hR => ?_
  cases hL : groundR p U with
  | none =>
    rw [hL] at hR
    obtain rfl := hR
    exact ret_plain rfl
  | some y =>
    rw [hL] at hR
    obtain ⟨tv, rfl, hR⟩ := hR
    exact ret_plain ⟨tv, rfl, hR⟩
theorem impl_BaseOk_spec {p : Pg} {u : List Tm} {b : List Fc} {v : Value} {ub fb : Option Addr} {uc fc : Nat} (hp : RepV μ p.d v) (hu : Sl μ 4 ub u.length (u.map Tm.d)) (hb : Sl μ 2 fb b.length (b.map Fc.d)) :
    Spec Tryz.prog 67 [v, .slice ub u.length uc, .slice fb b.length fc] μ fun r _ => r = .bool (decide (BaseP p u b)) := by
  have hp0 := hp
  obtain ⟨q, rfl, hrl⟩ := Pg.inv hp
  refine Spec.mk Tryz.func67 (by kernel_rfl) ?_
  intro r3
  refine call_plain (positiveRules_spec hp0 hu) fun v1 μ1 hle1 hR => ?_
  cases hL : posRules p u with
  | none =>
    rw [hL] at hR
    obtain rfl := hR
    refine if_intro (fun h => nomatch h) (fun _ => ret_plain (isF fun k => ?_))
    rw [posRules, if_pos k.2.1] at hL
    exact k.1 hL
  | some y =>
    rw [hL] at hR
    obtain ⟨tv, rfl, hR⟩ := hR
    have hpos : p.Pos := Classical.byContradiction fun k => by rw [posRules, if_neg k] at hL; cases hL
    rw [posRules, if_pos hpos] at hL
    have hok := groundO_some hL
    have hv_ := hok.2.lift
    obtain ⟨U, rfl, hUg, hUl⟩ := hv_
    refine if_intro (fun _ => ?_) (fun h => nomatch h)
    have hu' := hu
    rw [List.length_map] at hu' ⊢
    refine call_gives (baseFits_spec (hp0.mono hle1) (hu'.mono hle1) (hb.mono hle1)) ?_
    refine ret_plain (isI ?_)
    rw [BaseP, toTs_tm]
    exact ⟨fun k => ⟨by rw [hL]; exact (fun h => nomatch h), hpos, k⟩, fun k => k.2.2⟩
theorem spec_BaseOk_spec {p : Pg} {u : List Tm} {b : List Fc} {v : Value} {ub fb : Option Addr} {uc fc : Nat} (hp : RepV μ p.d v) (hw : p.d.wd) (hu : Sl μ 4 ub u.length (u.map Tm.d)) (hwu : D.wds (u.map Tm.d)) (hb : Sl μ 2 fb b.length (b.map Fc.d)) (hwb : D.wds (b.map Fc.d)) :
    Spec Tryz.prog 64 [v, .slice ub u.length uc, .slice fb b.length fc] μ fun r _ => r = .bool (decide (BaseP p u b)) := by
  have hp0 := hp
  obtain ⟨q, rfl, hrl⟩ := Pg.inv hp
  refine Spec.mk Tryz.func64 (by kernel_rfl) ?_
  intro r3
  refine call_plain (spec_GroundRules_spec hp0 hw hu hwu) fun v1 μ1 hle1 hR => ?_
  cases hL : groundO p u with
  | none =>
    rw [hL] at hR
    obtain rfl := hR
    exact if_intro (fun _ => ret_plain (isF fun k => k.1 hL)) (fun h => nomatch h)
  | some y =>
    rw [hL] at hR
    obtain ⟨tv, rfl, hR⟩ := hR
    have hok := groundO_some hL
    have hv_ := hok.2.lift
    obtain ⟨U, rfl, hUg, hUl⟩ := hv_
    refine if_intro (fun h => nomatch h) (fun _ => ?_)
    refine call_plain (spec_IsPositive_spec (hp0.mono hle1) hw) fun v2 μ2 hle2 hR2 => ?_
    obtain rfl := hR2
    refine ifnd (fun h => ret_plain (isF fun k => h k.2.1)) (fun hpos => ?_)
    have hle12 := hle1.trans hle2
    refine call_plain (l19FactsOk_spec (hp0.mono hle12) hw (hb.mono hle12) hwb) fun v3 μ3 hle3 hR3 => ?_
    obtain rfl := hR3
    refine ifnd (fun h => ret_plain (isF fun k => h fun f hf => ⟨hok.1, k.2.2.1 f hf⟩)) (fun hfit => ?_)
    have hfit : ∀ f ∈ b, FactFits p f := fun f hf => (hfit f hf).2
    have hbl := facts_lift hfit
    generalize hLe : b.map Fc.f = L at hbl
    subst hbl
    have hle := hle12.trans hle3
    have hu' := hu
    have hb' := hb
    rw [List.length_map] at hu' hb' ⊢
    rw [List.length_map]
    have hn := maxLen_le hb'.max
    refine call_gives (l18Inside_spec (hu'.mono hle) (hb'.mono hle)) ?_
    refine ifnd (fun h => ret_plain (isF fun k => h ?_)) (fun hin => ?_)
    · have := k.2.2.2.1
      rw [F.fcs, toTs_tm] at this
      exact this
    have hBP : AscF L L.length → BaseP p (U.map T.tm) (L.map F.fc) := fun k => ⟨by rw [hL]; exact (fun h => nomatch h), hpos, hfit, by rw [F.fcs, toTs_tm]; exact hin, by rw [F.fcs, List.length_map]; exact k⟩
    have hBN : BaseP p (U.map T.tm) (L.map F.fc) → AscF L L.length := fun k => by have := k.2.2.2.2; rwa [F.fcs, List.length_map] at this
    refine loop_intro (fun i : Nat => 1 ≤ i ∧ (i ≤ L.length ∨ i = 1) ∧ AscF L i)
      (fun i => ⟨[(2, .val (.slice fb L.length fc)), (9, .val (.int .i64 i))], [], 1, μ3, Mem.nil⟩) (fun i => L.length - i)
      1 ⟨Nat.le_refl _, .inr rfl, fun j x y hj _ _ => by omega⟩ (fun _ => ⟨rfl, rfl⟩) ⟨⟨rfl, rfl, trivial⟩, trivial, rfl, rfl⟩ ?_
    rintro i ⟨hi1, hi, hasc⟩
    refine ifd (fun hlt => ?_) (fun hlt => ?_)
    · have hv_ := at_some (l := L) (i := i) (by omega)
      obtain ⟨f, hf⟩ := hv_
      have hv_ := at_some (l := L) (i := i - 1) (by omega)
      obtain ⟨g, hg⟩ := hv_
      have hv_ := F.elem (hb'.mono hle) hf
      obtain ⟨ad, q1, hel, hrf, _⟩ := hv_
      have hv_ := F.elem (hb'.mono hle) hg
      obtain ⟨ad', q2, hel', hrg, _⟩ := hv_
      refine num64 (by omega) (by omega) ?_
      refine elem_intro (by rw [show ((i : Int) - 1) = ((i - 1 : Nat) : Int) by omega]; exact hel') ?_
      refine elem_intro hel ?_
      refine call_gives (l18Cmp_spec hrg hrf) ?_
      refine ifd (fun hc => ret_plain (isF fun k => ?_)) (fun hc => ?_)
      · have := hBN k (i - 1) g f (by omega) hg (by rw [show i - 1 + 1 = i by omega]; exact hf)
        omega
      · refine num64 (by omega) (by omega) ⟨i + 1, ⟨by omega, .inl (by omega), hasc.next fun x y _ hx hy => ?_⟩, by omega, ⟨⟨rfl, rfl, trivial⟩, trivial, rfl, rfl⟩⟩
        rw [hg] at hx; rw [hf] at hy; cases hx; cases hy
        omega
    · refine ret_plain (isT (hBP ?_))
      rcases Nat.lt_or_ge L.length i with h6 | h6
      · exact fun j x y hj _ _ => by omega
      · obtain rfl : i = L.length := by omega
        exact hasc
end
end Go.Vx

/- The law on bases of facts. -/
namespace Go.Vx
open Go.Proofs Classical
section
variable {μ : Mem}
theorem FnExactBaseOk_spec {t0 : Pg} {v0 : Value} {t1 : List Tm} {v1 : Value} {t2 : List Fc} {v2 : Value} (h0 : RepV μ t0.d v0) (h1 : RepV μ (.sl 4 (t1.map Tm.d)) v1) (h2 : RepV μ (.sl 2 (t2.map Fc.d)) v2) (w0 : t0.d.wd) (w1 : D.wds (t1.map Tm.d)) (w2 : D.wds (t2.map Fc.d)) :
    Spec Tryz.prog 12 [v0, v1, v2] μ fun r _ => r = .bool true := by
  obtain ⟨p0, rfl⟩ := Pg.invV h0
  obtain ⟨b1, c1, rfl, s1⟩ := Rep.sl h1
  rw [List.length_map] at s1 ⊢
  obtain ⟨b2, c2, rfl, s2⟩ := Rep.sl h2
  rw [List.length_map] at s2 ⊢
  refine Spec.mk Tryz.func12 (by kernel_rfl) ?_
  intro r0
  refine call_gives (szProgram_spec t0 h0 (by omega) (by omega) w0) ?_
  refine ifd (fun h => ret_plain rfl) (fun h => ?_)
  have q0 := szR_ge h
  rw [szR_pos q0] at h ⊢
  refine call_gives (szTermS_spec s1 (by omega) (by omega) w1) ?_
  refine ifd (fun h => ret_plain rfl) (fun h => ?_)
  have q1 := szR_ge h
  rw [szR_pos q1] at h ⊢
  refine call_gives (szFactS_spec s2 (by omega) (by omega) w2) ?_
  refine ifd (fun h => ret_plain rfl) (fun h => ?_)
  have q2 := szR_ge h
  rw [szR_pos q2] at h
  have hb0 : t0.d.sz ≤ 1048576 := by omega
  have hb1 : t1.length + D.szs (t1.map Tm.d) ≤ 1048576 := by omega
  have hb2 : t2.length + D.szs (t2.map Fc.d) ≤ 1048576 := by omega
  refine call_plain (toProgram_spec t0 h0 hb0) fun u1 μ1 hle1 hf1 => ?_
  replace h0 := h0.mono hle1
  replace s1 := s1.mono hle1
  replace s2 := s2.mono hle1
  obtain ⟨qq1, rfl⟩ := Pg.invV hf1.rep
  have a0 := hf1.rep
  refine call_plain (toTermS_spec s1 hb1) fun u2 μ2 hle2 hf2 => ?_
  replace h0 := h0.mono hle2
  replace s1 := s1.mono hle2
  replace s2 := s2.mono hle2
  replace a0 := a0.mono hle2
  obtain ⟨bb2, cc2, rfl, a1⟩ := Rep.sl hf2.rep
  rw [List.length_map] at a1 ⊢
  refine call_plain (toFactS_spec s2 hb2) fun u3 μ3 hle3 hf3 => ?_
  replace h0 := h0.mono hle3
  replace s1 := s1.mono hle3
  replace s2 := s2.mono hle3
  replace a0 := a0.mono hle3
  replace a1 := a1.mono hle3
  obtain ⟨bb3, cc3, rfl, a2⟩ := Rep.sl hf3.rep
  rw [List.length_map] at a2 ⊢
  refine call_gives (Spec.forget (spec_BaseOk_spec a0 w0 a1 w1 a2 w2)) ?_
  refine call_plain (toProgram_spec t0 h0 hb0) fun u4 μ4 hle4 hf4 => ?_
  replace h0 := h0.mono hle4
  replace s1 := s1.mono hle4
  replace s2 := s2.mono hle4
  replace a0 := a0.mono hle4
  replace a1 := a1.mono hle4
  replace a2 := a2.mono hle4
  obtain ⟨qq4, rfl⟩ := Pg.invV hf4.rep
  have x0 := hf4.rep
  intro rx0
  refine call_plain (toTermS_spec s1 hb1) fun u5 μ5 hle5 hf5 => ?_
  replace h0 := h0.mono hle5
  replace s1 := s1.mono hle5
  replace s2 := s2.mono hle5
  replace a0 := a0.mono hle5
  replace a1 := a1.mono hle5
  replace a2 := a2.mono hle5
  replace x0 := x0.mono hle5
  obtain ⟨bb5, cc5, rfl, x1⟩ := Rep.sl hf5.rep
  rw [List.length_map] at x1 ⊢
  refine call_plain (toFactS_spec s2 hb2) fun u6 μ6 hle6 hf6 => ?_
  replace h0 := h0.mono hle6
  replace s1 := s1.mono hle6
  replace s2 := s2.mono hle6
  replace a0 := a0.mono hle6
  replace a1 := a1.mono hle6
  replace a2 := a2.mono hle6
  replace x0 := x0.mono hle6
  replace x1 := x1.mono hle6
  obtain ⟨bb6, cc6, rfl, x2⟩ := Rep.sl hf6.rep
  rw [List.length_map] at x2 ⊢
  refine call_gives (Spec.forget (impl_BaseOk_spec x0 x1 x2)) ?_
  refine if_intro (fun h => absurd h (by simp)) (fun _ => ?_)
  refine call_plain (toProgram_spec t0 h0 hb0) fun u7 μ7 hle7 hf7 => ?_
  replace h0 := h0.mono hle7
  replace s1 := s1.mono hle7
  replace s2 := s2.mono hle7
  replace a0 := a0.mono hle7
  replace a1 := a1.mono hle7
  replace a2 := a2.mono hle7
  replace x0 := x0.mono hle7
  replace x1 := x1.mono hle7
  replace x2 := x2.mono hle7
  obtain ⟨qq7, rfl⟩ := Pg.invV hf7.rep
  have y0 := hf7.rep
  refine call_gives (eqProgram_spec _ x0 y0) ?_
  refine if_intro (fun h => nomatch h) (fun _ => ?_)
  refine call_plain (toTermS_spec s1 hb1) fun u8 μ8 hle8 hf8 => ?_
  replace h0 := h0.mono hle8
  replace s1 := s1.mono hle8
  replace s2 := s2.mono hle8
  replace a0 := a0.mono hle8
  replace a1 := a1.mono hle8
  replace a2 := a2.mono hle8
  replace x0 := x0.mono hle8
  replace x1 := x1.mono hle8
  replace x2 := x2.mono hle8
  obtain ⟨bb8, cc8, rfl, y1⟩ := Rep.sl hf8.rep
  rw [List.length_map] at y1 ⊢
  refine call_gives (eqTermS_spec x1 y1) ?_
  refine if_intro (fun h => nomatch h) (fun _ => ?_)
  refine call_plain (toFactS_spec s2 hb2) fun u9 μ9 hle9 hf9 => ?_
  replace h0 := h0.mono hle9
  replace s1 := s1.mono hle9
  replace s2 := s2.mono hle9
  replace a0 := a0.mono hle9
  replace a1 := a1.mono hle9
  replace a2 := a2.mono hle9
  replace x0 := x0.mono hle9
  replace x1 := x1.mono hle9
  replace x2 := x2.mono hle9
  obtain ⟨bb9, cc9, rfl, y2⟩ := Rep.sl hf9.rep
  rw [List.length_map] at y2 ⊢
  refine call_gives (eqFactS_spec x2 y2) ?_
  refine if_intro (fun h => nomatch h) (fun _ => ?_)
  exact ret_plain rfl
end
end Go.Vx

