/- Texts of the proof, part E1. -/
import Derived.Below
import Derived.Carry
import Derived.ChangeOld
import Derived.DeepKeys3
import Derived.Handed
import Derived.JoinedOf
import Derived.Lib.ReflectliteSwap
import Derived.MapKept
import Derived.OpenShut
import Derived.Orders
import Derived.ProofKit
import Derived.Sort.AssemblyPlain
import Derived.WalkKit
import Derived.WideKeyMaps
import Derived.Test.YteomklpfifepdaaM3
namespace Go.Vx
theorem mlen_intro {μ h : Mem} {r : Nat} {K : Nat → Prop} (l : List (Value × Value)) (hm : h r = some (mapO l)) (k : K l.length) : mlenVC μ h r K := ⟨⟨l, .inr hm, k⟩⟩
theorem upd_intro {h : Mem} {r : Nat} {ok : Value → Prop} {key val : Value} {K : Mem → Prop} (l : List (Value × Value)) (hm : h r = some (mapO l)) (hk : MapOk ok l) (hok : ok key) (k : K (h.set r (mapO (mset l key val)))) : updVC h r ok key val K := ⟨⟨hok, l, hm, hk, k⟩⟩
theorem next_intro {μ h : Mem} {r : Nat} {over : Prop} {K : Value → Value → Mem → Prop} (m : Nat) (seen : List Nat) (c : Nat) (l : List (Value × Value)) (hr : h r = some (iterO m l.length seen c)) (hm : h m = some (mapO l)) (hc : l.length ≤ c)
  (h1 : (∀ j, j < l.length → j ∈ seen) → over) (h2 : ∀ (j : Nat) k v, l[j]? = some (k, v) → j ∉ seen → K k v (h.set r (iterO m l.length (seen ++ [j]) l.length))) : nextVC μ h r over K := ⟨⟨m, seen, c, l, hr, .inr hm, hc, h1, h2⟩⟩
theorem ent_intro {μ h : Mem} {r : Nat} {K : Value → Value → Prop} (m n : Nat) (seen : List Nat) (j : Nat) (l : List (Value × Value)) (k v : Value) (hr : h r = some (iterO m n (seen ++ [j]) l.length)) (hm : h m = some (mapO l)) (hj : l[j]? = some (k, v)) (c : K k v) : entVC μ h r K := ⟨⟨m, n, seen, j, l, k, v, hr, .inr hm, hj, c⟩⟩
theorem loop_nil {body : St → (Ex → St → Prop) → Prop} {s : St} {K : Ex → St → Prop} {ι : Type} (I : ι → Prop) (σ : ι → St) (m : ι → Nat) (i0 : ι) (h0 : I i0)
  (h1 : ∀ i, scopedE (σ i).nxt (σ i).env = true ∧ scopedB (σ i).nxt (σ i).blk = true) (h2 : s.SubN (σ i0))
  (h3 : ∀ i, I i → body (σ i) fun e s' => match e with
   | .normal => ∃ i', I i' ∧ m i' < m i ∧ s'.Sub (σ i')
   | e => K e s') : loopVC body s K := ⟨.inl ⟨ι, I, σ, m, i0, h0, h1, .inr h2, h3⟩⟩
end Go.Vx
namespace Go.Vx
open Go.ChangeShapes Go.WideShapes Go.ChangeAt Go.RowKit
def InR (n : Int) : Prop := -9223372036854775808 ≤ n ∧ n ≤ 9223372036854775807
section
variable {P : Program} {t : TypeId}
end
end Go.Vx
namespace Go.Vx
mutual
def D.wd : D → Prop
 | .i n => InR n
 | .b _ => True
 | .s x => x.size ≤ maxLen
 | .st fs => D.wds fs
 | .sl _ xs => D.wds xs
def D.wds : List D → Prop
 | [] => True
 | d :: r => d.wd ∧ D.wds r
end
theorem D.wds_mem : ∀ {xs : List D}, D.wds xs → ∀ x ∈ xs, x.wd
 | [], _, x, h => by cases h
 | d :: r, k, x, h => by
  rcases List.mem_cons.1 h with rfl | h
  ·exact k.1
  ·exact D.wds_mem k.2 x h
end Go.Vx
namespace Go.Vx
open Go.Proofs Classical
theorem l01In_spec (n lo hi : Int) (μ : Mem) : Gives Try.prog 160 [.int .i64 n, .int .i64 lo, .int .i64 hi] μ (.bool (decide (lo ≤ n ∧ n ≤ hi))) := by
 refine Spec.mk Try.func160 (by kernel_rfl) ?_
 repeat' (first
  | refine ifd (fun h => ?_) (fun h => ?_)
  | refine ifnd (fun h => ?_) (fun h => ?_)
  | refine iIn (fun h => ?_) (fun h => ?_)
  | refine num64 ?_ ?_ ?_
  | refine byte_intro _ _ rfl (by assumption) ?_)
 all_goals refine rGv ?_ rfl
 ·simp_all
 ·simp; omega
theorem spec_IsName_spec (s : ByteArray) (hs : s.size ≤ maxLen) (μ : Mem) : Gives Try.prog 161 [.string s] μ (.bool (decide (IsNm s))) := by
 have hs : s.size ≤ 9223372036854775807 := Nat.le_trans hs (by decide)
 refine Spec.mk Try.func161 (by kernel_rfl) ?_
 refine lIn (fun i : Nat => i ≤ s.size ∧ ∀ k b, k < i → s.data.toList[k]? = some b → NmCh (k == 0) b) (fun i => ⟨[(0, .val (.string s)), (3, .val (.int .i64 i))], [], 0, μ, Mem.nil⟩) (fun i => s.size - i)
  0 ⟨by omega, fun k b hk hb => by omega⟩ (fun i => ⟨rfl, rfl⟩) ⟨⟨rfl, rfl, trivial⟩, trivial, rfl, rfl⟩ ?_
 rintro i ⟨hi2, hall⟩
 refine ifd (fun h5 => ?_) (fun h5 => cGv (l01In_spec _ _ _ _) (rGv ?_ rfl))
 ·have w_ := byte_some (s := s) (i := i) (by omega)
  obtain ⟨b, hb⟩ := w_
  have hb8 := b.toNat_lt
  have next : ((97 ≤ b.toNat ∧ b.toNat ≤ 122) ∨ (i ≠ 0 ∧ ((48 ≤ b.toNat ∧ b.toNat ≤ 57) ∨ b.toNat = 45))) → ∀ k b', k < i + 1 → s.data.toList[k]? = some b' → NmCh (k == 0) b' := fun g k b' hk hb' => by
   by_cases e : k = i
   ·subst e; rw [hb] at hb'; cases hb'; exact g.imp id fun g => ⟨by simp; exact g.1, g.2⟩
   ·exact hall k b' (by omega) hb'
  have badb : ¬ ((97 ≤ b.toNat ∧ b.toNat ≤ 122) ∨ (i ≠ 0 ∧ ((48 ≤ b.toNat ∧ b.toNat ≤ 57) ∨ b.toNat = 45))) → Value.bool false = .bool (decide (IsNm s)) := fun g => by
   have : ¬ IsNm s := fun h => g ((h.2.2 i b hb).imp id fun k => ⟨by have := k.1; simpa using this, k.2⟩)
   simp [this]
  repeat' (first
   | refine cGv (l01In_spec _ _ _ _) ?_
   | refine ifd (fun h => ?_) (fun h => ?_)
   | refine ifnd (fun h => ?_) (fun h => ?_)
   | refine iIn (fun h => ?_) (fun h => ?_)
   | refine num64 ?_ ?_ ?_
   | refine byte_intro i b rfl hb ?_)
  all_goals first
   | (refine rGv (badb ?_) rfl; omega)
   | exact ⟨i + 1, ⟨by omega, next (by omega)⟩, by omega, ⟨⟨rfl, rfl, trivial⟩, trivial, rfl, rfl⟩⟩
   | omega
 ·congr 1
  simp only [decide_eq_decide]
  exact ⟨fun h => ⟨by omega, by omega, fun k b hb => hall k b (by have := byte_lt hb; omega) hb⟩, fun h => by have := h.1; have := h.2.1; omega⟩
end Go.Vx
namespace Go.Vx
open Go.Proofs Classical
def rsv : List ByteArray := [⟨#[116, 114, 117, 101]⟩, ⟨#[102, 97, 105, 108]⟩, ⟨#[115, 121, 109, 98, 111, 108]⟩, ⟨#[110, 117, 109, 98, 101, 114]⟩, ⟨#[97, 98, 115, 101, 110, 116]⟩, ⟨#[97, 110, 100]⟩, ⟨#[111, 114]⟩, ⟨#[110, 111, 116]⟩, ⟨#[100, 101, 102, 105, 110, 101]⟩]
def IsRel (s : ByteArray) : Prop := s ∉ rsv ∧ IsNm s
end Go.Vx
namespace Go.Vx
open Go.Proofs Classical
theorem Tm.cnt_eq (t : Tm) : t.d.cnt = 3 + D.cnts (t.args.map Tm.d) := by
 rw [Tm.d_eq]; simp [D.cnt, D.cnts]; omega
section
variable {μ : Mem}
theorem Bd.cnt_eq (b : Bd) : b.d.cnt = 4 + D.cnts (b.to.args.map Tm.d) := by
 simp only [Bd.d, D.cnt, D.cnts, Tm.cnt_eq]; omega
end
end Go.Vx
namespace Go.Vx
open Go.Proofs Classical
theorem lift_ok : ∀ {l : List Tm}, (∀ t ∈ l, t.Ok) → ∃ xs : List T, l = xs.map T.tm ∧ ∀ x ∈ xs, x.ok
 | [], _ => ⟨[], rfl, by simp⟩
 | t :: l, h => by
  have w_ := (h t (by simp)).lift
  obtain ⟨x, h1, rfl⟩ := w_
  have w_ := lift_ok (l := l) fun t ht => h t (by simp [ht])
  obtain ⟨xs, rfl, h2⟩ := w_
  exact ⟨x :: xs, rfl, by simp; exact ⟨h1, h2⟩⟩
end Go.Vx
namespace Go.Vx
open Go.Proofs Classical
section
variable {μ : Mem}
theorem Tm.cnts_le (xs : List Tm) (j : Nat) : Tm.cnts (xs.take j) ≤ Tm.cnts xs := by
 have := Tm.cnts_append (xs.take j) (xs.drop j)
 rw [List.take_append_drop] at this; omega
theorem l02Count_spec : ∀ (t : Tm) {v : Value} {most : Int}, RepV μ t.d v → -1000000000000 ≤ most → most ≤ 1000000000000 → Gives Try.prog 127 [v, .int .i64 most] μ (.int .i64 (upTo t.cnt most)) :=
 Tm.ind fun k n s l ih v most hv h1 h2 => by
  have w_ := Tm.inv hv
  obtain ⟨base, cap, rfl, hsl⟩ := w_
  have hn := maxLen_le hsl.max
  refine Spec.mk Try.func127 (by kernel_rfl) ?_
  intro r
  refine lIn (fun i : Nat => i ≤ l.length) (fun i => ⟨[(1, .val (.int .i64 most)), (5, .val (.int .i64 (upTo (1 + Tm.cnts (l.take i) : Nat) most))), (9, .val (.slice base l.length cap)), (10, .val (.int .i64 l.length)), (11, .val (.int .i64 i))], [], 1, μ, Mem.nil⟩) (fun i => l.length - i)
   0 (by omega) (fun i => ⟨rfl, rfl⟩) ⟨⟨rfl, by show some (SV.val (.int .i64 _)) = some (SV.val (.int .i64 _)); congr 3; simp [Tm.cnts, upTo]; omega, rfl, rfl, rfl, trivial⟩, trivial, rfl, rfl⟩ ?_
  intro i hi
  refine ifd (fun h => ?_) (fun h => ?_)
  ·have w_ := aSo (l := l) (i := i) (by omega)
   obtain ⟨t, ht⟩ := w_
   have hc := Tm.cnts_take ht
   have hc' := Tm.cnts_le l (i + 1)
   have w_ := Tm.elem hsl ht
   obtain ⟨ad, p, hel, hr⟩ := w_
   refine eIn hel ?_
   intro r2
   refine ifd (fun h => rGv ?_ rfl) (fun h => ?_)
   ·simp only [Tm.cnt, upTo] at h ⊢
    congr 1; omega
   ·have hb : upTo (1 + Tm.cnts (l.take i) : Nat) most ≤ 1000000000001 ∧ 1 ≤ upTo (1 + Tm.cnts (l.take i) : Nat) most := by unfold upTo; omega
    refine num64 (by omega) (by omega) ?_
    refine cGv (ih t (mAt ht) hr (by omega) (by omega)) ?_
    refine nEq (x := upTo (1 + Tm.cnts (l.take (i + 1)) : Nat) most) ?_ ?_
    ·have hb2 : upTo (t.cnt : Int) (most - upTo (1 + Tm.cnts (l.take i) : Nat) most) ≤ 1000000000001 ∧ 1 ≤ upTo (t.cnt : Int) (most - upTo (1 + Tm.cnts (l.take i) : Nat) most) := by
      have := t.cnt_pos
      unfold upTo at hb h ⊢
      omega
     rw [wrap64 (by omega) (by omega), hc]
     unfold upTo at h ⊢; omega
    ·exact num64 (by omega) (by omega) ⟨i + 1, by omega, by omega, ⟨⟨rfl, rfl, rfl, rfl, rfl, trivial⟩, trivial, rfl, rfl⟩⟩
  ·obtain rfl : i = l.length := by omega
   rw [List.take_length]
   exact rGv rfl rfl
set_option maxRecDepth 20000 in
theorem l02Shape_spec : ∀ (t : Tm) {v : Value}, RepV μ t.d v → t.d.wd → Gives Try.prog 128 [v] μ (.bool (decide t.Sh)) :=
 Tm.ind fun k n s l ih v hv hw => by
  have w_ := Tm.inv hv
  obtain ⟨base, cap, rfl, hsl⟩ := w_
  have hn := maxLen_le hsl.max
  rw [Tm.d_mk] at hw
  have hs : s.size ≤ maxLen := hw.2.2.1
  have hws := D.wds_mem (xs := l.map Tm.d) hw.2.2.2.1
  have hiff := Tm.Sh_iff' k n s l
  refine Spec.mk Try.func128 (by kernel_rfl) ?_
  intro r
  repeat' (first
   | refine ifd (fun h => ?_) (fun h => ?_)
   | refine ifnd (fun h => ?_) (fun h => ?_)
   | refine iIn (fun h => ?_) (fun h => ?_))
  all_goals first
   | (exfalso; clear ih hsl hv hw hws hiff; first | omega | contradiction)
   | (refine rGv (isF fun hS => ?_) rfl; clear ih hsl hv hw hws; rcases hiff.1 hS with ⟨e1, e2, e3, e4⟩ | ⟨e1, e2, e3, e4, e5⟩ | ⟨e1, e2, e3, e4⟩ | ⟨e1, e2, e3, e4, e5⟩ | ⟨e1, e2, e3, e4, e5⟩ <;> first | omega | contradiction | (subst_vars; contradiction))
   | (refine rGv (isT (hiff.2 (.inl ⟨?_, ?_, ?_, ?_⟩))) rfl <;> first | omega | assumption)
   | (refine cGv (l01In_spec _ _ _ _) (rGv (isI (p := (0 : Int) ≤ n ∧ n ≤ 100000) (hiff.trans ⟨fun hh => ?_, fun hh => .inr (.inl ⟨by omega, hh.1, hh.2, by assumption, by omega⟩)⟩).symm) rfl); rcases hh with ⟨e1, e2, e3, e4⟩ | ⟨e1, e2, e3, e4, e5⟩ | ⟨e1, e2, e3, e4⟩ | ⟨e1, e2, e3, e4, e5⟩ | ⟨e1, e2, e3, e4, e5⟩ <;> first | omega | exact ⟨by omega, by omega⟩)
   | (refine cGv (l01In_spec _ _ _ _) (rGv (isI (p := (-1000000000 : Int) ≤ n ∧ n ≤ 1000000000) (hiff.trans ⟨fun hh => ?_, fun hh => .inr (.inr (.inr (.inl ⟨by omega, hh.1, hh.2, by assumption, by omega⟩)))⟩).symm) rfl); rcases hh with ⟨e1, e2, e3, e4⟩ | ⟨e1, e2, e3, e4, e5⟩ | ⟨e1, e2, e3, e4⟩ | ⟨e1, e2, e3, e4, e5⟩ | ⟨e1, e2, e3, e4, e5⟩ <;> first | omega | exact ⟨by omega, by omega⟩)
   | (refine cGv (spec_IsName_spec s hs _) (rGv (isI (p := IsNm s) (hiff.trans ⟨fun hh => ?_, fun hh => .inr (.inr (.inl ⟨by omega, by omega, hh, by omega⟩))⟩).symm) rfl); rcases hh with ⟨e1, e2, e3, e4⟩ | ⟨e1, e2, e3, e4, e5⟩ | ⟨e1, e2, e3, e4⟩ | ⟨e1, e2, e3, e4, e5⟩ | ⟨e1, e2, e3, e4, e5⟩ <;> first | omega | assumption)
   | skip
  have h2 := h
  have w_ := two_of h2
  obtain ⟨a, b, rfl⟩ := w_
  have w_ := Tm.elem (i := 0) hsl rfl
  obtain ⟨ad, p, hel, hra⟩ := w_
  have w_ := Tm.elem (i := 1) hsl rfl
  obtain ⟨ad', p', hel', hrb⟩ := w_
  refine eIn hel (cGv (ih a (by simp) hra (hws _ (by simp))) ?_)
  refine iIn (fun h => ?_) (fun h => ?_)
  ·refine eIn hel' (cGv (ih b (by simp) hrb (hws _ (by simp))) (rGv (isI (hiff.trans ⟨fun hh => ?_, fun hh => ?_⟩).symm) rfl))
   ·rcases hh with ⟨e1, e2, e3, e4⟩ | ⟨e1, e2, e3, e4, e5⟩ | ⟨e1, e2, e3, e4⟩ | ⟨e1, e2, e3, e4, e5⟩ | ⟨e1, e2, e3, e4, e5⟩ <;> first | omega | (obtain ⟨a', b', e, e6, e7⟩ := e5; cases e; assumption)
   ·exact .inr (.inr (.inr (.inr ⟨by omega, by omega, by assumption, rfl, a, b, rfl, of_decide_eq_true h, hh⟩)))
  ·refine rGv (isF fun hh => ?_) rfl
   replace hh := hiff.1 hh
   rcases hh with ⟨e1, e2, e3, e4⟩ | ⟨e1, e2, e3, e4, e5⟩ | ⟨e1, e2, e3, e4⟩ | ⟨e1, e2, e3, e4, e5⟩ | ⟨e1, e2, e3, e4, e5⟩ <;> first | omega | (obtain ⟨a', b', e, e6, e7⟩ := e5; cases e; exact absurd e6 (of_decide_eq_false h))
end
end Go.Vx
namespace Go.Vx
open Go.Proofs Classical
section
variable {μ : Mem}
theorem spec_TermOk_spec (t : Tm) {v : Value} (hv : RepV μ t.d v) (hw : t.d.wd) : Gives Try.prog 94 [v] μ (.bool (decide t.Ok)) := by
 have w_ := Tm.invV hv
 obtain ⟨p, rfl⟩ := w_
 refine Spec.mk Try.func94 (by kernel_rfl) ?_
 intro r
 refine cGv (l02Count_spec t hv (by decide) (by decide)) ?_
 refine ifd (fun h => ?_) (fun h => rGv (isF fun hh => ?_) rfl)
 ·refine cGv (l02Shape_spec t hv hw) (rGv (isI ⟨fun hh => ⟨hh, ?_⟩, fun hh => hh.1⟩) rfl)
  unfold upTo at h; omega
 ·have := hh.2; unfold upTo at h; omega
end
end Go.Vx
namespace Go.Vx
open Go.Proofs Classical
section
variable {μ : Mem}
theorem T.vars_size : ∀ x : T, x.vars.length ≤ x.size
 | .nil => by simp [T.vars]
 | .var _ => by simp [T.vars, T.size]
 | .sym _ => by simp [T.vars]
 | .num _ => by simp [T.vars]
 | .pair a b => by
  have := T.vars_size a
  have := T.vars_size b
  simp [T.vars, T.size]; omega
end
end Go.Vx
namespace Go.Vx
open Go.Proofs Classical
theorem T.args_le (x : T) : x.args.length ≤ 2 := by cases x <;> simp [T.args]
theorem l02Copy_spec : ∀ (x : T) {μ : Mem} {v : Value}, RepV μ x.tm.d v → Spec Try.prog 57 [v] μ fun v μ' => RepV μ' x.tm.d v :=
 T.ind fun x ih μ v hv => by
  have w_ := T.inv hv
  obtain ⟨base, cap, rfl, hsl⟩ := w_
  have hn := T.args_le x
  refine Spec.mk Try.func57 (by kernel_rfl) ?_
  intro r1 r2 r3
  refine loop_nil (fun p : Nat × Option Nat × Nat × List Value × Mem => p.1 ≤ x.args.length ∧ μ.Le p.2.2.2.2 ∧ Rows p.2.2.2.2 4 (((x.args.take p.1).map T.tm).map Tm.d) p.2.2.2.1)
   (fun (i, b, c, ys, μ') => ⟨[(2, .loc 1 r2 0), (3, .loc 2 r3 0), (14, .val (.slice base x.args.length cap)), (15, .val (.int .i64 x.args.length)), (16, .val (.int .i64 i))],
    [(1, some (.cells r2 [.val (.int .i64 0), .val (.int .i64 0), .val (.string ⟨#[]⟩), .val (.slice none 0 0)] 27)), (2, some (.cells r3 [.val (.int .i64 x.tm.kind), .val (.int .i64 x.tm.num), .val (.string x.tm.name), .row 3 b ys.length c] 27)), (3, some (.row b c 27 4 ys))], 4, μ', Mem.nil⟩) (fun p => x.args.length - p.1)
   (0, none, 0, [], μ) ⟨by simp, Mem.Le.refl μ, .nil⟩ (fun (_, _, _, _, _) => ⟨rfl, rfl⟩) ⟨⟨⟨_, rfl, .inl rfl⟩, ⟨_, rfl, .inl rfl⟩, ⟨_, rfl, .inl rfl⟩, ⟨_, rfl, .inl rfl⟩, ⟨_, rfl, .inl rfl⟩, trivial⟩, ⟨.inl rfl, .inr (.inr ⟨_, _, _, _, rfl, rfl, .inl rfl, .inl rfl, .inl rfl, .inr ⟨3, rfl, rfl, Nat.le_refl _⟩, trivial⟩), .inr (.inl ⟨_, _, rfl, Nat.le_refl _⟩), trivial⟩, rfl, rfl⟩ ?_
  rintro ⟨i, b, c, ys, μ'⟩ ⟨hi, hle, hrows⟩
  dsimp only at hi hle hrows
  have hlen := hrows.len
  simp only [List.length_map, List.length_take] at hlen
  refine ifd (fun h => ?_) (fun h => ?_)
  ·have w_ := aSo (l := x.args) (i := i) (by omega)
   obtain ⟨t, ht⟩ := w_
   have ht' : (x.args.map T.tm)[i]? = some t.tm := by simp [ht]
   have w_ := Tm.elem (hsl.mono hle) ht'
   obtain ⟨ad, p, hel, hr⟩ := w_
   refine eIn hel ?_
   intro r4
   refine cPl (ih t (mAt ht) hr) fun v' μ'' hle2 hR => ?_
   have w_ := Tm.invV hR
   obtain ⟨q, rfl⟩ := w_
   intro r5
   refine gIn ?_ ?_ fun b' c' _ => ?_
   ·show (ys.length + 1) * 56 ≤ _; omega
   ·show ys.length + 1 ≤ 9223372036854775807; omega
   have hsucc : ((x.args.take (i + 1)).map T.tm).map Tm.d = ((x.args.take i).map T.tm).map Tm.d ++ [t.tm.d] := by
    rw [List.take_add_one, ht, Option.toList_some]; simp
   exact num64 (by omega) (by omega) ⟨(i + 1, b', c', _, μ''), ⟨by dsimp only; omega, hle.trans hle2, by rw [hsucc]; exact (hrows.mono hle2).append (Rows.one hR (Tm.d_n _))⟩, by dsimp only; omega, ⟨⟨rfl, rfl, rfl, rfl, rfl, trivial⟩, ⟨rfl, rfl, rfl, trivial⟩, rfl, rfl⟩⟩
  ·obtain rfl : i = x.args.length := by omega
   rw [List.take_length] at hrows
   refine rFz [3] fun μ2 hle2 hno hrow => .inl ?_
   rw [T.d_eq]
   exact ⟨_, rfl, RepS.int (RepS.int (RepS.str (RepS.last (Rows.sl hrow (hrows.mono hle2) (Nat.le_trans (m := 10) (by omega) (by decide))))))⟩
end Go.Vx
namespace Go.Vx
open Go.Proofs Classical
section
variable {μ : Mem}
theorem T.kind4 {x : T} (h : x.tm.kind = 4) : ∃ a b, x = .pair a b := by
 cases x <;> simp_all [T.tm, Tm.kind]
theorem T.arg {μ : Mem} {x : T} {base : Option Addr} (h : Sl μ 4 base x.args.length ((x.args.map T.tm).map Tm.d)) {i : Nat} {y : T} (hy : x.args[i]? = some y) : ∃ ad, ∃ p : Option Addr × Nat, ElemAt μ base x.args.length 4 i ad (y.tm.cs p) ∧ RepV μ y.tm.d (.agg (y.tm.cs p).toArray) :=
 Tm.elem h (by simp [hy])
end
end Go.Vx
namespace Go.Vx
open Go.Proofs Classical
theorem var_ok {n : Int} (h : 0 ≤ n ∧ n ≤ 100000) : (T.var n).ok := ⟨h, by simp [T.size]⟩
theorem var_wd {n : Int} (h : 0 ≤ n ∧ n ≤ 100000) : (T.var n).tm.d.wd := by
 rw [T.d_eq]
 exact ⟨⟨show (-9223372036854775808 : Int) ≤ 1 by decide, show (1 : Int) ≤ 9223372036854775807 by decide⟩, ⟨show _ ≤ n by omega, show n ≤ _ by omega⟩, Nat.zero_le _, trivial, trivial⟩
theorem T.good_subst {f : Int → Option T} (hf : ∀ n y, f n = some y → y.good) : ∀ {x : T}, x.good → (x.subst f).good
 | .var n, h => by
  simp only [T.subst]
  cases e : f n with
  | none => exact h
  | some y => exact hf n y e
 | .pair a b, h => ⟨T.good_subst hf h.1, T.good_subst hf h.2⟩
 | .nil, h => h
 | .sym _, h => h
 | .num _, h => h
theorem T.good_wd : ∀ {x : T}, x.good → x.tm.d.wd
 | .nil, _ => by
  rw [T.d_eq]
  exact ⟨⟨show (-9223372036854775808 : Int) ≤ 0 by decide, show (0 : Int) ≤ 9223372036854775807 by decide⟩, ⟨show (-9223372036854775808 : Int) ≤ 0 by decide, show (0 : Int) ≤ 9223372036854775807 by decide⟩, Nat.zero_le _, trivial, trivial⟩
 | .var n, h => var_wd h
 | .sym s, h => by
  rw [T.d_eq]
  exact ⟨⟨show (-9223372036854775808 : Int) ≤ 2 by decide, show (2 : Int) ≤ 9223372036854775807 by decide⟩, ⟨show (-9223372036854775808 : Int) ≤ 0 by decide, show (0 : Int) ≤ 9223372036854775807 by decide⟩, Nat.le_trans h.2.1 (by decide), trivial, trivial⟩
 | .num n, h => by
  have h1 : -1000000000 ≤ n ∧ n ≤ 1000000000 := h
  rw [T.d_eq]
  exact ⟨⟨show (-9223372036854775808 : Int) ≤ 3 by decide, show (3 : Int) ≤ 9223372036854775807 by decide⟩, ⟨show _ ≤ n by omega, show n ≤ _ by omega⟩, Nat.zero_le _, trivial, trivial⟩
 | .pair a b, h => by
  rw [T.d_eq]
  exact ⟨⟨show (-9223372036854775808 : Int) ≤ 4 by decide, show (4 : Int) ≤ 9223372036854775807 by decide⟩, ⟨show (-9223372036854775808 : Int) ≤ 0 by decide, show (0 : Int) ≤ 9223372036854775807 by decide⟩, Nat.zero_le _, ⟨T.good_wd h.1, T.good_wd h.2, trivial⟩, trivial⟩
end Go.Vx
namespace Go.Vx
open Go.Proofs Classical
section
variable {P : Program} {f : FuncId} {args : List Value} {μ h H : Mem}
theorem ne_of_obj {a b : Nat} {x y : Obj} (h1 : h a = some x) (h2 : h b = some y) (hne : x ≠ y) : a ≠ b := fun e => by
 subst e; rw [h1] at h2; cases h2; exact hne rfl
theorem ne_of_none {a b : Nat} {x : Obj} (h1 : h a = some x) (h2 : h b = none) : a ≠ b := fun e => by
 subst e; rw [h1] at h2; cases h2
variable {dr : Bool} {s : St} {K : Value → St → Prop}
end
section
variable {μ : Mem}
theorem eachVar_rel {S : Type} (J : S → Mem → Prop) (step : S → Int → S) (Q : S → Int → Prop) {k : FuncId} {caps : List Value}
  (hc : ∀ s h n, Q s n → J s h → SpecH Try.prog k (.int .i64 n :: caps) μ h fun r μ' h' => r = .tuple #[] ∧ μ' = μ ∧ J (step s n) h') :
  ∀ (x : T) {v : Value} (s : S) (h : Mem), RepV μ x.tm.d v → (∀ pre n post, x.vars = pre ++ n :: post → Q (pre.foldl step s) n) → J s h → SpecH Try.prog 63 [v, .func (.func k) #[] caps.toArray] μ h fun r μ' h' => r = .tuple #[] ∧ μ' = μ ∧ J (x.vars.foldl step s) h'
 | .var n, v, s, h, hv, hq, hj => by
  have w_ := Tm.inv hv
  obtain ⟨base, cap, rfl, hsl⟩ := w_
  refine SpecH.mk [] Try.func63 (by kernel_rfl) ?_
  intro r
  refine ifd (fun _ => ?_) (fun h => absurd rfl h)
  refine cOw (hc s h n (hq [] n [] rfl) hj) fun v μ' h' hle hap hR => ?_
  obtain ⟨rfl, e2, hj'⟩ := hR
  obtain rfl := e2.symm
  refine ifd (fun h => absurd h (by decide)) (fun _ => ?_)
  exact rPl ⟨rfl, rfl, hj'⟩
 | .nil, v, s, h, hv, hq, hj => by
  have w_ := Tm.inv hv
  obtain ⟨base, cap, rfl, hsl⟩ := w_
  refine SpecH.mk [] Try.func63 (by kernel_rfl) ?_
  intro r
  refine ifd (fun h => absurd h (by decide)) (fun _ => ?_)
  refine ifd (fun h => absurd h (by decide)) (fun _ => ?_)
  exact rPl ⟨rfl, rfl, hj⟩
 | .sym _, v, s, h, hv, hq, hj => by
  have w_ := Tm.inv hv
  obtain ⟨base, cap, rfl, hsl⟩ := w_
  refine SpecH.mk [] Try.func63 (by kernel_rfl) ?_
  intro r
  refine ifd (fun h => absurd h (by decide)) (fun _ => ?_)
  refine ifd (fun h => absurd h (by decide)) (fun _ => ?_)
  exact rPl ⟨rfl, rfl, hj⟩
 | .num _, v, s, h, hv, hq, hj => by
  have w_ := Tm.inv hv
  obtain ⟨base, cap, rfl, hsl⟩ := w_
  refine SpecH.mk [] Try.func63 (by kernel_rfl) ?_
  intro r
  refine ifd (fun h => absurd h (by decide)) (fun _ => ?_)
  refine ifd (fun h => absurd h (by decide)) (fun _ => ?_)
  exact rPl ⟨rfl, rfl, hj⟩
 | .pair a b, v, s, h, hv, hq, hj => by
  have w_ := Tm.inv hv
  obtain ⟨base, cap, rfl, hsl⟩ := w_
  have w_ := T.parts hsl
  obtain ⟨ad, ad', p, p', h1, h2, hra, hrb⟩ := w_
  refine SpecH.mk [] Try.func63 (by kernel_rfl) ?_
  intro r
  refine ifd (fun h => absurd h (by decide)) (fun _ => ?_)
  refine ifd (fun _ => ?_) (fun h => absurd rfl h)
  refine eIn h1 (cOw (eachVar_rel J step Q hc a s h hra (fun pre n post e => hq pre n (post ++ b.vars) (by simp [T.vars, e])) hj) fun v μ' h' hle hap hR => ?_)
  obtain ⟨rfl, e2, hj'⟩ := hR
  obtain rfl := e2.symm
  refine eIn h2 (cOw (eachVar_rel J step Q hc b _ h' hrb (fun pre n post e => by
   have := hq (a.vars ++ pre) n post (by simp [T.vars, e])
   rwa [List.foldl_append] at this) hj') fun v μ' h' hle hap hR => ?_)
  obtain ⟨rfl, e2, hj'⟩ := hR
  obtain rfl := e2.symm
  exact rPl ⟨rfl, rfl, by simpa [T.vars, List.foldl_append] using hj'⟩
end
end Go.Vx
namespace Go.Vx
open Go.Proofs Classical
section
variable {μ : Mem}
theorem insAt_length {α : Type} (l : List α) (x : α) (k : Nat) : (insAt l x k).length = l.length + 1 := by
 have := congrArg List.length (List.take_append_drop k l)
 simp only [insAt, List.length_append, List.length_singleton] at *
 omega
def InsPos (bs : List B) (n : Int) (k : Nat) : Prop := k ≤ bs.length ∧ (∀ c, bs[k - 1]? = some c → 0 < k → c.var ≤ n) ∧ ∀ j c, k ≤ j → bs[j]? = some c → n < c.var
theorem T.vars_range : ∀ {x : T}, x.good → ∀ n ∈ x.vars, 0 ≤ n ∧ n ≤ 100000
 | .var n, h, m, hm => by
  simp only [T.vars, List.mem_singleton] at hm
  subst hm; exact h
 | .pair a b, h, m, hm => by
  simp only [T.vars, List.mem_append] at hm
  exact hm.elim (T.vars_range h.1 m) (T.vars_range h.2 m)
 | .nil, _, m, hm => by simp [T.vars] at hm
 | .sym _, _, m, hm => by simp [T.vars] at hm
 | .num _, _, m, hm => by simp [T.vars] at hm
end
end Go.Vx
namespace Go.Vx
open Go.Proofs Classical
section
variable {μ : Mem}
theorem one_of {α : Type} {l : List α} (h : l.length = 1) : ∃ v, l = [v] := List.length_eq_one_iff.1 h
variable {μ1 μ' : Mem}
end
end Go.Vx
namespace Go.Vx
open Go.Proofs Classical
structure VK where
 var : Int
 kind : Int
def VK.d (x : VK) : D := .st [.i x.var, .i x.kind]
theorem VK.d_eq (x : VK) : x.d = .st [.i x.var, .i x.kind] := rfl
theorem VK.d_n (x : VK) : x.d.n = 2 := by
 rw [VK.d_eq]
 simp only [D.n, D.ns]
abbrev VK.P := Unit
def VK.cs (x : VK) (_p : VK.P) : List Value := [.int .i64 x.var, .int .i64 x.kind]
section
variable {μ : Mem}
def VK.At (_μ : Mem) (_x : VK) (_p : VK.P) : Prop := True
theorem VK.invA {x : VK} {cs : List Value} (h : Rep μ x.d cs) : ∃ p : VK.P, cs = x.cs p ∧ VK.At μ x p := by
 rw [VK.d_eq] at h
 obtain ⟨a0, t0, rfl, h0, h⟩ := h
 have h0 : a0 = [.int .i64 x.var] := h0
 subst h0
 obtain ⟨a1, t1, rfl, h1, h⟩ := h
 have h1 : a1 = [.int .i64 x.kind] := h1
 subst h1
 obtain rfl : t1 = [] := h
 exact ⟨(), by simp [VK.cs], trivial⟩
theorem VK.rep {x : VK} {cs : List Value} (h : Rep μ x.d cs) : RepV μ x.d (.agg cs.toArray) := by
 rw [VK.d_eq] at h ⊢; exact ⟨cs, rfl, h⟩
theorem VK.inv {x : VK} {v : Value} (h : RepV μ x.d v) : ∃ p : VK.P, v = .agg #[.int .i64 x.var, .int .i64 x.kind] ∧ VK.At μ x p := by
 have h2 : ∃ cs, v = .agg (List.toArray cs) ∧ Rep μ x.d cs := by rw [VK.d_eq] at h ⊢; exact h
 obtain ⟨cs, rfl, h3⟩ := h2
 have w_ := VK.invA h3
 obtain ⟨p, rfl, hA⟩ := w_
 exact ⟨p, rfl, hA⟩
theorem VK.invV {x : VK} {v : Value} (h : RepV μ x.d v) : ∃ _ : VK.P, v = .agg #[.int .i64 x.var, .int .i64 x.kind] := by
 have w_ := VK.inv h
 obtain ⟨p, h, _⟩ := w_
 exact ⟨p, h⟩
theorem VK.elemA {l : List VK} {base : Option Addr} {n : Nat} (h : Sl μ 2 base n (l.map VK.d)) {i : Nat} {x : VK} (hx : l[i]? = some x) : ∃ ad, ∃ p : VK.P, ElemAt μ base n 2 i ad (x.cs p) ∧ RepV μ x.d (.agg (x.cs p).toArray) ∧ VK.At μ x p := by
 have w_ := h.get i x.d (by simp [hx])
 obtain ⟨ad, cs, h1, h2⟩ := w_
 have w_ := VK.invA h2
 obtain ⟨p, rfl, hA⟩ := w_
 exact ⟨ad, p, h1, VK.rep h2, hA⟩
theorem VK.elem {l : List VK} {base : Option Addr} {n : Nat} (h : Sl μ 2 base n (l.map VK.d)) {i : Nat} {x : VK} (hx : l[i]? = some x) : ∃ ad, ∃ p : VK.P, ElemAt μ base n 2 i ad (x.cs p) ∧ RepV μ x.d (.agg (x.cs p).toArray) := by
 have w_ := VK.elemA h hx
 obtain ⟨ad, p, h1, h2, _⟩ := w_
 exact ⟨ad, p, h1, h2⟩
theorem VK.cnt_eq (x : VK) : x.d.cnt = 2 := by
 rw [VK.d_eq]
 simp only [D.cnt, D.cnts]
end
end Go.Vx
namespace Go.Vx
open Go.Proofs Classical
inductive Gl where
 | mk (kind : Int) (name : ByteArray) (terms : List Tm) (goals : List Gl)
def Gl.kind : Gl → Int | .mk a _ _ _ => a
def Gl.name : Gl → ByteArray | .mk _ a _ _ => a
def Gl.terms : Gl → List Tm | .mk _ _ a _ => a
def Gl.goals : Gl → List Gl | .mk _ _ _ a => a
theorem Gl.ind {q : Gl → Prop} (h : ∀ x : Gl, (∀ y ∈ x.goals, q y) → q x) : ∀ x, q x
 | .mk a0 a1 a2 a3 => h _ fun y hy => have _ := hy; Gl.ind h y
termination_by x => x
decreasing_by all_goals (first | exact Nat.lt_of_lt_of_le (List.sizeOf_lt_of_mem hy) (by simp only [Gl.goals, Gl.mk.sizeOf_spec]; omega) | decreasing_tactic)
mutual
def Gl.d : Gl → D
 | .mk a0 a1 a2 a3 => .st [.i a0, .s a1, .sl 4 (a2.map Tm.d), .sl 4 (Gl.ds a3)]
def Gl.ds : List Gl → List D
 | [] => []
 | t :: r => t.d :: Gl.ds r
end
theorem Gl.ds_map : ∀ l : List Gl, Gl.ds l = l.map Gl.d
 | [] => rfl
 | t :: r => by simp [Gl.ds, Gl.ds_map r]
theorem Gl.d_eq (x : Gl) : x.d = .st [.i x.kind, .s x.name, .sl 4 (x.terms.map Tm.d), .sl 4 (x.goals.map Gl.d)] := by
 cases x
 rw [Gl.d, Gl.ds_map]
 rfl
theorem Gl.d_n (x : Gl) : x.d.n = 4 := by
 rw [Gl.d_eq]
 simp only [D.n, D.ns]
abbrev Gl.P := (Option Addr × Nat) × (Option Addr × Nat)
def Gl.cs (x : Gl) (p : Gl.P) : List Value := [.int .i64 x.kind, .string x.name, .slice p.1.1 x.terms.length p.1.2, .slice p.2.1 x.goals.length p.2.2]
section
variable {μ : Mem}
def Gl.At (μ : Mem) (x : Gl) (p : Gl.P) : Prop := Sl μ 4 p.1.1 x.terms.length (x.terms.map Tm.d) ∧ Sl μ 4 p.2.1 x.goals.length (x.goals.map Gl.d)
theorem Gl.invA {x : Gl} {cs : List Value} (h : Rep μ x.d cs) : ∃ p : Gl.P, cs = x.cs p ∧ Gl.At μ x p := by
 rw [Gl.d_eq] at h
 obtain ⟨a0, t0, rfl, h0, h⟩ := h
 have h0 : a0 = [.int .i64 x.kind] := h0
 subst h0
 obtain ⟨a1, t1, rfl, h1, h⟩ := h
 have h1 : a1 = [.string x.name] := h1
 subst h1
 obtain ⟨a2, t2, rfl, h2, h⟩ := h
 have w_ := one_of (Rep.len _ _ h2)
 obtain ⟨v2, rfl⟩ := w_
 have w_ := Rep.sl h2
 obtain ⟨b2, c2, rfl, s2⟩ := w_
 rw [List.length_map] at s2
 obtain ⟨a3, t3, rfl, h3, h⟩ := h
 have w_ := one_of (Rep.len _ _ h3)
 obtain ⟨v3, rfl⟩ := w_
 have w_ := Rep.sl h3
 obtain ⟨b3, c3, rfl, s3⟩ := w_
 rw [List.length_map] at s3
 obtain rfl : t3 = [] := h
 exact ⟨((b2, c2), (b3, c3)), by simp [Gl.cs], ⟨s2, s3⟩⟩
theorem Gl.rep {x : Gl} {cs : List Value} (h : Rep μ x.d cs) : RepV μ x.d (.agg cs.toArray) := by
 rw [Gl.d_eq] at h ⊢; exact ⟨cs, rfl, h⟩
theorem Gl.inv {x : Gl} {v : Value} (h : RepV μ x.d v) : ∃ p : Gl.P, v = .agg #[.int .i64 x.kind, .string x.name, .slice p.1.1 x.terms.length p.1.2, .slice p.2.1 x.goals.length p.2.2] ∧ Gl.At μ x p := by
 have h2 : ∃ cs, v = .agg (List.toArray cs) ∧ Rep μ x.d cs := by rw [Gl.d_eq] at h ⊢; exact h
 obtain ⟨cs, rfl, h3⟩ := h2
 have w_ := Gl.invA h3
 obtain ⟨p, rfl, hA⟩ := w_
 exact ⟨p, rfl, hA⟩
theorem Gl.invV {x : Gl} {v : Value} (h : RepV μ x.d v) : ∃ p : Gl.P, v = .agg #[.int .i64 x.kind, .string x.name, .slice p.1.1 x.terms.length p.1.2, .slice p.2.1 x.goals.length p.2.2] := by
 have w_ := Gl.inv h
 obtain ⟨p, h, _⟩ := w_
 exact ⟨p, h⟩
theorem Gl.elemA {l : List Gl} {base : Option Addr} {n : Nat} (h : Sl μ 4 base n (l.map Gl.d)) {i : Nat} {x : Gl} (hx : l[i]? = some x) : ∃ ad, ∃ p : Gl.P, ElemAt μ base n 4 i ad (x.cs p) ∧ RepV μ x.d (.agg (x.cs p).toArray) ∧ Gl.At μ x p := by
 have w_ := h.get i x.d (by simp [hx])
 obtain ⟨ad, cs, h1, h2⟩ := w_
 have w_ := Gl.invA h2
 obtain ⟨p, rfl, hA⟩ := w_
 exact ⟨ad, p, h1, Gl.rep h2, hA⟩
theorem Gl.elem {l : List Gl} {base : Option Addr} {n : Nat} (h : Sl μ 4 base n (l.map Gl.d)) {i : Nat} {x : Gl} (hx : l[i]? = some x) : ∃ ad, ∃ p : Gl.P, ElemAt μ base n 4 i ad (x.cs p) ∧ RepV μ x.d (.agg (x.cs p).toArray) := by
 have w_ := Gl.elemA h hx
 obtain ⟨ad, p, h1, h2, _⟩ := w_
 exact ⟨ad, p, h1, h2⟩
theorem Gl.cnt_eq (x : Gl) : x.d.cnt = 2 + D.cnts (x.terms.map Tm.d) + D.cnts (x.goals.map Gl.d) := by
 rw [Gl.d_eq]
 simp only [D.cnt, D.cnts]
 omega
end
end Go.Vx
namespace Go.Vx
open Go.Proofs Classical
structure Mk where
 var : Int
 tag : ByteArray
def Mk.d (x : Mk) : D := .st [.i x.var, .s x.tag]
theorem Mk.d_eq (x : Mk) : x.d = .st [.i x.var, .s x.tag] := rfl
theorem Mk.d_n (x : Mk) : x.d.n = 2 := by
 rw [Mk.d_eq]
 simp only [D.n, D.ns]
abbrev Mk.P := Unit
def Mk.cs (x : Mk) (_p : Mk.P) : List Value := [.int .i64 x.var, .string x.tag]
section
variable {μ : Mem}
def Mk.At (_μ : Mem) (_x : Mk) (_p : Mk.P) : Prop := True
theorem Mk.invA {x : Mk} {cs : List Value} (h : Rep μ x.d cs) : ∃ p : Mk.P, cs = x.cs p ∧ Mk.At μ x p := by
 rw [Mk.d_eq] at h
 obtain ⟨a0, t0, rfl, h0, h⟩ := h
 have h0 : a0 = [.int .i64 x.var] := h0
 subst h0
 obtain ⟨a1, t1, rfl, h1, h⟩ := h
 have h1 : a1 = [.string x.tag] := h1
 subst h1
 obtain rfl : t1 = [] := h
 exact ⟨(), by simp [Mk.cs], trivial⟩
theorem Mk.rep {x : Mk} {cs : List Value} (h : Rep μ x.d cs) : RepV μ x.d (.agg cs.toArray) := by
 rw [Mk.d_eq] at h ⊢; exact ⟨cs, rfl, h⟩
theorem Mk.inv {x : Mk} {v : Value} (h : RepV μ x.d v) : ∃ p : Mk.P, v = .agg #[.int .i64 x.var, .string x.tag] ∧ Mk.At μ x p := by
 have h2 : ∃ cs, v = .agg (List.toArray cs) ∧ Rep μ x.d cs := by rw [Mk.d_eq] at h ⊢; exact h
 obtain ⟨cs, rfl, h3⟩ := h2
 have w_ := Mk.invA h3
 obtain ⟨p, rfl, hA⟩ := w_
 exact ⟨p, rfl, hA⟩
theorem Mk.invV {x : Mk} {v : Value} (h : RepV μ x.d v) : ∃ _p : Mk.P, v = .agg #[.int .i64 x.var, .string x.tag] := by
 have w_ := Mk.inv h
 obtain ⟨p, h, _⟩ := w_
 exact ⟨p, h⟩
theorem Mk.elemA {l : List Mk} {base : Option Addr} {n : Nat} (h : Sl μ 2 base n (l.map Mk.d)) {i : Nat} {x : Mk} (hx : l[i]? = some x) : ∃ ad, ∃ p : Mk.P, ElemAt μ base n 2 i ad (x.cs p) ∧ RepV μ x.d (.agg (x.cs p).toArray) ∧ Mk.At μ x p := by
 have w_ := h.get i x.d (by simp [hx])
 obtain ⟨ad, cs, h1, h2⟩ := w_
 have w_ := Mk.invA h2
 obtain ⟨p, rfl, hA⟩ := w_
 exact ⟨ad, p, h1, Mk.rep h2, hA⟩
theorem Mk.elem {l : List Mk} {base : Option Addr} {n : Nat} (h : Sl μ 2 base n (l.map Mk.d)) {i : Nat} {x : Mk} (hx : l[i]? = some x) : ∃ ad, ∃ p : Mk.P, ElemAt μ base n 2 i ad (x.cs p) ∧ RepV μ x.d (.agg (x.cs p).toArray) := by
 have w_ := Mk.elemA h hx
 obtain ⟨ad, p, h1, h2, _⟩ := w_
 exact ⟨ad, p, h1, h2⟩
theorem Mk.cnt_eq (x : Mk) : x.d.cnt = 2 := by
 rw [Mk.d_eq]
 simp only [D.cnt, D.cnts]
end
end Go.Vx
namespace Go.Vx
open Go.Proofs Classical
mutual
def Gl.cnt : Gl → Nat
 | .mk _ _ _ l => 1 + Gl.cnts l
def Gl.cnts : List Gl → Nat
 | [] => 0
 | t :: r => t.cnt + Gl.cnts r
end
theorem Gl.cnt_eq1 (g : Gl) : g.cnt = 1 + Gl.cnts g.goals := by cases g; rfl
theorem Gl.cnt_pos (g : Gl) : 1 ≤ g.cnt := by rw [Gl.cnt_eq1]; omega
theorem Gl.cnts_append : ∀ (a c : List Gl), Gl.cnts (a ++ c) = Gl.cnts a + Gl.cnts c
 | [], c => by simp [Gl.cnts]
 | d :: r, c => by simp [Gl.cnts, Gl.cnts_append r c, Nat.add_assoc]
theorem Gl.cnts_take {xs : List Gl} {j : Nat} {x : Gl} (h : xs[j]? = some x) : Gl.cnts (xs.take (j + 1)) = Gl.cnts (xs.take j) + x.cnt := by
 rw [List.take_add_one, h, Option.toList_some, Gl.cnts_append]; simp [Gl.cnts]
theorem Gl.cnts_le (xs : List Gl) (j : Nat) : Gl.cnts (xs.take j) ≤ Gl.cnts xs := by
 have := Gl.cnts_append (xs.take j) (xs.drop j)
 rw [List.take_append_drop] at this; omega
structure TopOk (g : Gl) : Prop where
 tm : ∀ t ∈ g.terms, t.Ok
 k0 : 0 ≤ g.kind
 k1 : g.kind ≤ 10
 nm : g.kind ≠ 9 → g.name = ⟨#[]⟩
 rel : g.kind = 9 → IsRel g.name
 ln9 : g.kind = 9 → g.terms.length ≤ 4
 ln2 : g.kind = 2 ∨ g.kind = 3 ∨ g.kind = 6 → g.terms.length = 2
 ln1 : g.kind = 4 ∨ g.kind = 5 → g.terms.length = 1
 ln0 : g.kind = 0 ∨ g.kind = 1 ∨ g.kind = 7 ∨ g.kind = 8 ∨ g.kind = 10 → g.terms.length = 0
 gl : g.goals.length ≤ 8
 gl0 : g.kind < 7 ∨ g.kind = 9 → g.goals.length = 0
 gl1 : g.kind = 10 → g.goals.length = 1
 sy : g.kind = 6 → ∀ a, g.terms[0]? = some a → a.kind = 2
 cl : g.kind = 10 → ∀ b, g.goals[0]? = some b → b.kind = 9
inductive Gl.Sh : Gl → Prop
 | mk {g : Gl} (top : TopOk g) (sub : ∀ x ∈ g.goals, x.Sh) : g.Sh
theorem Gl.Sh.top {g : Gl} (h : g.Sh) : TopOk g := by cases h; assumption
theorem Gl.Sh.sub {g : Gl} (h : g.Sh) : ∀ x ∈ g.goals, x.Sh := by cases h; assumption
def Gl.Ok (g : Gl) : Prop := g.Sh ∧ g.cnt ≤ 80
section
variable {μ : Mem}
end
end Go.Vx
namespace Go.Vx
open Go.Proofs Classical
noncomputable def Gl.nodes (t : Gl) (room : Int) : Int := if t.Sh ∧ (t.cnt : Int) ≤ room then t.cnt else -1
theorem Gl.nodes_neg {t : Gl} {room : Int} (h : ¬ (t.Sh ∧ (t.cnt : Int) ≤ room)) : Value.int .i64 (-1) = .int .i64 (t.nodes room) := by rw [Gl.nodes, if_neg h]
theorem Gl.nodes_pos {t : Gl} {room : Int} (h : t.Sh) (h2 : (t.cnt : Int) ≤ room) : t.nodes room = t.cnt := by rw [Gl.nodes, if_pos ⟨h, h2⟩]
theorem Gl.nodes_lt {t : Gl} {room : Int} (h : t.nodes room < 0) : ¬ (t.Sh ∧ (t.cnt : Int) ≤ room) := fun k => by rw [Gl.nodes, if_pos k] at h; omega
theorem Gl.nodes_ge {t : Gl} {room : Int} (h : ¬ t.nodes room < 0) : t.Sh ∧ (t.cnt : Int) ≤ room ∧ t.nodes room = t.cnt := by
 by_cases k : t.Sh ∧ (t.cnt : Int) ≤ room
 ·exact ⟨k.1, k.2, by rw [Gl.nodes, if_pos k]⟩
 ·rw [Gl.nodes, if_neg k] at h; omega
section
variable {μ : Mem}
end
end Go.Vx
namespace Go.Vx
open Go.Proofs Classical
open Go.Sort
theorem bitsLen_shift {x k : Nat} (h : 2 ^ k ≤ x) : bitsLen x = bitsLen (x / 2 ^ k) + k := by
 have hpos : 0 < 2 ^ k := Nat.two_pow_pos k
 apply Nat.le_antisymm
 ·rw [bitsLen_le_iff, Nat.pow_add]
  have := lt_two_pow_bitsLen (x / 2 ^ k)
  rw [Nat.div_lt_iff_lt_mul hpos] at this
  exact this
 ·have h1 : k < bitsLen x := by
   rcases Nat.lt_or_ge k (bitsLen x) with h2 | h2
   ·exact h2
   ·have := (bitsLen_le_iff x k).1 h2; omega
  have h3 : bitsLen (x / 2 ^ k) ≤ bitsLen x - k := by
   rw [bitsLen_le_iff, Nat.div_lt_iff_lt_mul hpos, ← Nat.pow_add]
   have : bitsLen x - k + k = bitsLen x := by omega
   rw [this]; exact lt_two_pow_bitsLen x
  omega
section
variable {μ : Mem}
theorem Len64_spec {x : Nat} (hx : x < 18446744073709551616) : Gives Try.prog 151 [.int .u64 x] μ (.int .i64 (bitsLen x)) := by
 obtain ⟨L, hL⟩ : ∃ L, L = bitsLen x := ⟨_, rfl⟩
 rw [← hL]
 refine Spec.mk Try.func151 (by kernel_rfl) ?_
 refine ifd (fun h1 => ?_) (fun h1 => ?_)
 ·refine need_intro (by decide) ?_
  refine nEq (x := ((x / 4294967296 : Nat) : Int)) (by
   show (x : Int).fdiv 4294967296 = _
   rw [Int.fdiv_eq_ediv_of_nonneg _ (by decide)]; rfl) ?_
  have b1 : bitsLen x = bitsLen (x / 4294967296) + 32 := bitsLen_shift (k := 32) (by omega)
  have b2 : x / 4294967296 < 4294967296 := by omega
  generalize x / 4294967296 = y at *
  refine ifd (fun h2 => ?_) (fun h2 => ?_)
  ·refine need_intro (by decide) ?_
   refine nEq (x := ((y / 65536 : Nat) : Int)) (by
    show (y : Int).fdiv 65536 = _
    rw [Int.fdiv_eq_ediv_of_nonneg _ (by decide)]; rfl) ?_
   have b3 : bitsLen y = bitsLen (y / 65536) + 16 := bitsLen_shift (k := 16) (by omega)
   have b4 : y / 65536 < 65536 := by omega
   generalize y / 65536 = z at *
   refine nEq (x := 32 + 16) (by decide) ?_
   refine ifd (fun h3 => ?_) (fun h3 => ?_)
   ·refine need_intro (by decide) ?_
    refine nEq (x := ((z / 256 : Nat) : Int)) (by
     show (z : Int).fdiv 256 = _
     rw [Int.fdiv_eq_ediv_of_nonneg _ (by decide)]; rfl) ?_
    have b5 : bitsLen z = bitsLen (z / 256) + 8 := bitsLen_shift (k := 8) (by omega)
    have b6 : z / 256 < 256 := by omega
    generalize z / 256 = w at *
    refine nEq (x := 32 + 16 + 8) (by decide) ?_
    have b7 : bitsLen w ≤ 8 := (bitsLen_le_iff w 8).2 b6
    refine nEq (x := (w : Int)) (by
     show (w : Int) % 256 = _
     omega) ?_
    refine byte_intro w (UInt8.ofNat (bitsLen w)) rfl ?_ ?_
    ·clear b5 b7
     try clear hw
     revert w
     decide +kernel
    refine nEq (x := (bitsLen w : Int)) (by
     rw [UInt8.toNat_ofNat', Nat.mod_eq_of_lt (by omega), wrap64 (by omega) (by omega)]) ?_
    refine nEq (x := (L : Int)) (by rw [wrap64 (by omega) (by omega)]; omega) ?_
    exact rGv rfl rfl
   ·obtain ⟨w, hw⟩ : ∃ w, w = z := ⟨_, rfl⟩
    have b5 : bitsLen z = bitsLen w + 0 := by rw [hw]; rfl
    have b6 : w < 256 := by omega
    rw [← hw]
    have b7 : bitsLen w ≤ 8 := (bitsLen_le_iff w 8).2 b6
    refine nEq (x := (w : Int)) (by
     show (w : Int) % 256 = _
     omega) ?_
    refine byte_intro w (UInt8.ofNat (bitsLen w)) rfl ?_ ?_
    ·clear b5 b7
     try clear hw
     revert w
     decide +kernel
    refine nEq (x := (bitsLen w : Int)) (by
     rw [UInt8.toNat_ofNat', Nat.mod_eq_of_lt (by omega), wrap64 (by omega) (by omega)]) ?_
    refine nEq (x := (L : Int)) (by rw [wrap64 (by omega) (by omega)]; omega) ?_
    exact rGv rfl rfl
  ·obtain ⟨z, hz⟩ : ∃ z, z = y := ⟨_, rfl⟩
   have b3 : bitsLen y = bitsLen z + 0 := by rw [hz]; rfl
   have b4 : z < 65536 := by omega
   rw [← hz]
   refine ifd (fun h3 => ?_) (fun h3 => ?_)
   ·refine need_intro (by decide) ?_
    refine nEq (x := ((z / 256 : Nat) : Int)) (by
     show (z : Int).fdiv 256 = _
     rw [Int.fdiv_eq_ediv_of_nonneg _ (by decide)]; rfl) ?_
    have b5 : bitsLen z = bitsLen (z / 256) + 8 := bitsLen_shift (k := 8) (by omega)
    have b6 : z / 256 < 256 := by omega
    generalize z / 256 = w at *
    refine nEq (x := 32 + 8) (by decide) ?_
    have b7 : bitsLen w ≤ 8 := (bitsLen_le_iff w 8).2 b6
    refine nEq (x := (w : Int)) (by
     show (w : Int) % 256 = _
     omega) ?_
    refine byte_intro w (UInt8.ofNat (bitsLen w)) rfl ?_ ?_
    ·clear b5 b7
     try clear hw
     revert w
     decide +kernel
    refine nEq (x := (bitsLen w : Int)) (by
     rw [UInt8.toNat_ofNat', Nat.mod_eq_of_lt (by omega), wrap64 (by omega) (by omega)]) ?_
    refine nEq (x := (L : Int)) (by rw [wrap64 (by omega) (by omega)]; omega) ?_
    exact rGv rfl rfl
   ·obtain ⟨w, hw⟩ : ∃ w, w = z := ⟨_, rfl⟩
    have b5 : bitsLen z = bitsLen w + 0 := by rw [hw]; rfl
    have b6 : w < 256 := by omega
    rw [← hw]
    have b7 : bitsLen w ≤ 8 := (bitsLen_le_iff w 8).2 b6
    refine nEq (x := (w : Int)) (by
     show (w : Int) % 256 = _
     omega) ?_
    refine byte_intro w (UInt8.ofNat (bitsLen w)) rfl ?_ ?_
    ·clear b5 b7
     try clear hw
     revert w
     decide +kernel
    refine nEq (x := (bitsLen w : Int)) (by
     rw [UInt8.toNat_ofNat', Nat.mod_eq_of_lt (by omega), wrap64 (by omega) (by omega)]) ?_
    refine nEq (x := (L : Int)) (by rw [wrap64 (by omega) (by omega)]; omega) ?_
    exact rGv rfl rfl
 ·obtain ⟨y, hy⟩ : ∃ y, y = x := ⟨_, rfl⟩
  have b1 : bitsLen x = bitsLen y + 0 := by rw [hy]; rfl
  have b2 : y < 4294967296 := by omega
  rw [← hy]
  refine ifd (fun h2 => ?_) (fun h2 => ?_)
  ·refine need_intro (by decide) ?_
   refine nEq (x := ((y / 65536 : Nat) : Int)) (by
    show (y : Int).fdiv 65536 = _
    rw [Int.fdiv_eq_ediv_of_nonneg _ (by decide)]; rfl) ?_
   have b3 : bitsLen y = bitsLen (y / 65536) + 16 := bitsLen_shift (k := 16) (by omega)
   have b4 : y / 65536 < 65536 := by omega
   generalize y / 65536 = z at *
   refine nEq (x := 0 + 16) (by decide) ?_
   refine ifd (fun h3 => ?_) (fun h3 => ?_)
   ·refine need_intro (by decide) ?_
    refine nEq (x := ((z / 256 : Nat) : Int)) (by
     show (z : Int).fdiv 256 = _
     rw [Int.fdiv_eq_ediv_of_nonneg _ (by decide)]; rfl) ?_
    have b5 : bitsLen z = bitsLen (z / 256) + 8 := bitsLen_shift (k := 8) (by omega)
    have b6 : z / 256 < 256 := by omega
    generalize z / 256 = w at *
    refine nEq (x := 0 + 16 + 8) (by decide) ?_
    have b7 : bitsLen w ≤ 8 := (bitsLen_le_iff w 8).2 b6
    refine nEq (x := (w : Int)) (by
     show (w : Int) % 256 = _
     omega) ?_
    refine byte_intro w (UInt8.ofNat (bitsLen w)) rfl ?_ ?_
    ·clear b5 b7
     try clear hw
     revert w
     decide +kernel
    refine nEq (x := (bitsLen w : Int)) (by
     rw [UInt8.toNat_ofNat', Nat.mod_eq_of_lt (by omega), wrap64 (by omega) (by omega)]) ?_
    refine nEq (x := (L : Int)) (by rw [wrap64 (by omega) (by omega)]; omega) ?_
    exact rGv rfl rfl
   ·obtain ⟨w, hw⟩ : ∃ w, w = z := ⟨_, rfl⟩
    have b5 : bitsLen z = bitsLen w + 0 := by rw [hw]; rfl
    have b6 : w < 256 := by omega
    rw [← hw]
    have b7 : bitsLen w ≤ 8 := (bitsLen_le_iff w 8).2 b6
    refine nEq (x := (w : Int)) (by
     show (w : Int) % 256 = _
     omega) ?_
    refine byte_intro w (UInt8.ofNat (bitsLen w)) rfl ?_ ?_
    ·clear b5 b7
     try clear hw
     revert w
     decide +kernel
    refine nEq (x := (bitsLen w : Int)) (by
     rw [UInt8.toNat_ofNat', Nat.mod_eq_of_lt (by omega), wrap64 (by omega) (by omega)]) ?_
    refine nEq (x := (L : Int)) (by rw [wrap64 (by omega) (by omega)]; omega) ?_
    exact rGv rfl rfl
  ·obtain ⟨z, hz⟩ : ∃ z, z = y := ⟨_, rfl⟩
   have b3 : bitsLen y = bitsLen z + 0 := by rw [hz]; rfl
   have b4 : z < 65536 := by omega
   rw [← hz]
   refine ifd (fun h3 => ?_) (fun h3 => ?_)
   ·refine need_intro (by decide) ?_
    refine nEq (x := ((z / 256 : Nat) : Int)) (by
     show (z : Int).fdiv 256 = _
     rw [Int.fdiv_eq_ediv_of_nonneg _ (by decide)]; rfl) ?_
    have b5 : bitsLen z = bitsLen (z / 256) + 8 := bitsLen_shift (k := 8) (by omega)
    have b6 : z / 256 < 256 := by omega
    generalize z / 256 = w at *
    refine nEq (x := 0 + 8) (by decide) ?_
    have b7 : bitsLen w ≤ 8 := (bitsLen_le_iff w 8).2 b6
    refine nEq (x := (w : Int)) (by
     show (w : Int) % 256 = _
     omega) ?_
    refine byte_intro w (UInt8.ofNat (bitsLen w)) rfl ?_ ?_
    ·clear b5 b7
     try clear hw
     revert w
     decide +kernel
    refine nEq (x := (bitsLen w : Int)) (by
     rw [UInt8.toNat_ofNat', Nat.mod_eq_of_lt (by omega), wrap64 (by omega) (by omega)]) ?_
    refine nEq (x := (L : Int)) (by rw [wrap64 (by omega) (by omega)]; omega) ?_
    exact rGv rfl rfl
   ·obtain ⟨w, hw⟩ : ∃ w, w = z := ⟨_, rfl⟩
    have b5 : bitsLen z = bitsLen w + 0 := by rw [hw]; rfl
    have b6 : w < 256 := by omega
    rw [← hw]
    have b7 : bitsLen w ≤ 8 := (bitsLen_le_iff w 8).2 b6
    refine nEq (x := (w : Int)) (by
     show (w : Int) % 256 = _
     omega) ?_
    refine byte_intro w (UInt8.ofNat (bitsLen w)) rfl ?_ ?_
    ·clear b5 b7
     try clear hw
     revert w
     decide +kernel
    refine nEq (x := (bitsLen w : Int)) (by
     rw [UInt8.toNat_ofNat', Nat.mod_eq_of_lt (by omega), wrap64 (by omega) (by omega)]) ?_
    refine nEq (x := (L : Int)) (by rw [wrap64 (by omega) (by omega)]; omega) ?_
    exact rGv rfl rfl
theorem Len_spec {x : Nat} (hx : x < 18446744073709551616) : Gives Try.prog 120 [.int .u64 x] μ (.int .i64 (bitsLen x)) := by
 refine Spec.mk Try.func120 (by kernel_rfl) ?_
 refine cGv (Len64_spec hx) ?_
 exact rGv rfl rfl
theorem and_le {x m : Int} (h0 : 0 ≤ m) (h1 : m < 18446744073709551616) : 0 ≤ bits .and .u64 x m ∧ bits .and .u64 x m ≤ m := by
 have e : bits .and .u64 x m = (((BitVec.ofInt 64 x &&& BitVec.ofInt 64 m).toNat : Nat) : Int) % 18446744073709551616 := rfl
 have h2 : (BitVec.ofInt 64 m).toNat = m.toNat := by
  rw [BitVec.toNat_ofInt]
  congr 1
  exact Int.emod_eq_of_lt h0 h1
 have h3 : (BitVec.ofInt 64 x &&& BitVec.ofInt 64 m).toNat ≤ m.toNat := by
  rw [BitVec.toNat_and, h2]
  exact Nat.and_le_right
 rw [e]
 omega
end
end Go.Vx
namespace Go.Vx
open Go.Proofs Classical
open Go.Sort
theorem nodup_len {N : Nat} {l : List Nat} (h : l.Nodup) (hb : ∀ j ∈ l, j < N) : l.length ≤ N := by
 have h1 : (l.map fun j : Nat => (j : Int)).Nodup := List.Pairwise.map (S := fun a b => a ≠ b) _ (fun a b hab e => hab (by omega)) h
 have := nodup_range (N := N) h1 fun n hn => by
  have w_ := List.mem_map.1 hn
  obtain ⟨j, hj, rfl⟩ := w_
  have := hb j hj; omega
 rwa [List.length_map] at this
section
variable {μ h : Mem}
end
end Go.Vx
namespace Go.Vx
open Go.Proofs Classical
mutual
def Gl.all : Gl → List Gl
 | .mk k s ts gs => .mk k s ts gs :: Gl.alls gs
def Gl.alls : List Gl → List Gl
 | [] => []
 | g :: r => g.all ++ Gl.alls r
end
theorem Gl.alls_map : ∀ l : List Gl, Gl.alls l = l.flatMap Gl.all
 | [] => rfl
 | g :: r => by simp [Gl.alls, Gl.alls_map r]
theorem Gl.all_eq (g : Gl) : g.all = g :: g.goals.flatMap Gl.all := by
 cases g
 rw [Gl.all, Gl.alls_map]
 rfl
theorem Gl.Sh.all : ∀ (g : Gl), g.Sh → ∀ x ∈ g.all, x.Sh :=
 Gl.ind fun g ih h x hx => by
  rw [Gl.all_eq] at hx
  rcases List.mem_cons.1 hx with rfl | hx
  ·exact h
  ·have w_ := List.mem_flatMap.1 hx
   obtain ⟨y, hy, hx⟩ := w_
   exact ih y hy (h.sub y hy) x hx
noncomputable def Gl.tvars (g : Gl) : List Int := (g.terms.map Tm.toT).flatMap T.vars
noncomputable def Gl.vars (g : Gl) : List Int := g.all.flatMap Gl.tvars
theorem toTs_tm' {xs : List T} : (xs.map T.tm).map Tm.toT = xs := by
 rw [List.map_map]
 exact (List.map_congr_left fun x _ => T.toT_tm x).trans (List.map_id _)
section
variable {μ : Mem}
theorem Gl.vars_range {g : Gl} (h : g.Sh) : ∀ n ∈ g.vars, 0 ≤ n ∧ n ≤ 100000 := fun n hn => by
 have w_ := List.mem_flatMap.1 hn
 obtain ⟨x, hx, hn⟩ := w_
 have w_ := lift_ok (h.all g x hx).top.tm
 obtain ⟨xs, hxs, hxo⟩ := w_
 rw [Gl.tvars, hxs, toTs_tm'] at hn
 have w_ := List.mem_flatMap.1 hn
 obtain ⟨t, ht, hn⟩ := w_
 exact T.vars_range (hxo t ht).1 n hn
end
end Go.Vx
namespace Go.Vx
open Go.Proofs Classical
section
variable {μ : Mem}
theorem appl_good {s : List Bd} {t : Tm} {x : T} (h1 : substOk s) (h2 : t.Ok) (h : fit (t.toT.subst (sub (s.map Bd.b))) = some x) : x.good := by
 obtain ⟨bs, rfl, hbs⟩ := h1.subst
 rw [B.map_b] at h
 have w_ := fit_some.1 h
 obtain ⟨_, rfl⟩ := w_
 exact T.good_subst (fun n y hy => (sub_ok hbs.vals.tok hy).1) h2.toT.1.1
theorem var_subst_ok {bs : List B} (h : ∀ b ∈ bs, b.to.ok) {n : Int} (hn : 0 ≤ n ∧ n ≤ 100000) : ((T.var n).subst (sub bs)).ok := by
 rw [T.subst]
 cases e : sub bs n with
 | none => exact ⟨hn, by show (T.var n).size ≤ 5000; simp [T.size]⟩
 | some y => exact sub_ok h e
end
end Go.Vx
namespace Go.Vx
open Go.Proofs Classical
def T.hasSym (s : ByteArray) : T → Prop
 | .sym a => a = s
 | .pair a b => a.hasSym s ∨ b.hasSym s
 | .nil => False
 | .var _ => False
 | .num _ => False
theorem T.hasSym_args (s : ByteArray) (x : T) : x.hasSym s ↔ (x.tm.kind = 2 ∧ x.tm.name = s) ∨ ∃ y ∈ x.args, y.hasSym s := by
 cases x <;> simp [T.hasSym, T.tm, Tm.kind, Tm.name, T.args]
section
variable {μ : Mem}
theorem l10Contains_spec (s : ByteArray) : ∀ (x : T) {v : Value}, RepV μ x.tm.d v → Gives Try.prog 95 [v, .string s] μ (.bool (decide (x.hasSym s))) :=
 T.ind fun x ih v hv => by
  have w_ := T.inv hv
  obtain ⟨base, cap, rfl, hsl⟩ := w_
  have hn := maxLen_le hsl.max
  refine Spec.mk Try.func95 (by kernel_rfl) ?_
  intro r
  refine lIn (fun i : Nat => i ≤ x.args.length ∧ ∀ j y, j < i → x.args[j]? = some y → ¬ y.hasSym s)
   (fun i => ⟨[(1, .val (.string s)), (2, .loc 0 r 0), (8, .val (.slice base x.args.length cap)), (9, .val (.int .i64 x.args.length)), (10, .val (.int .i64 i))], [(0, some (.cells r [.val (.int .i64 x.tm.kind), .val (.int .i64 x.tm.num), .val (.string x.tm.name), .val (.slice base x.args.length cap)] 27))], 1, μ, Mem.nil⟩) (fun i => x.args.length - i)
   0 ⟨by omega, fun j y hj => by omega⟩ (fun _ => ⟨rfl, rfl⟩) ⟨⟨rfl, rfl, rfl, rfl, rfl, trivial⟩, ⟨rfl, trivial⟩, rfl, rfl⟩ ?_
  rintro i ⟨hi, hno⟩
  refine ifd (fun h => ?_) (fun h => ?_)
  ·have w_ := aSo (l := x.args) (i := i) (by omega)
   obtain ⟨t, ht⟩ := w_
   have w_ := T.arg hsl ht
   obtain ⟨ad, p, hel, hto⟩ := w_
   refine eIn hel ?_
   intro r2
   refine cGv (ih t (mAt ht) hto) ?_
   refine ifd (fun hy => rGv (isT ((T.hasSym_args s x).2 (.inr ⟨t, mAt ht, hy⟩))) rfl) (fun hy => ?_)
   refine num64 (by omega) (by omega) ⟨i + 1, ⟨by omega, fun j y hj hy2 => ?_⟩, by omega, ⟨⟨rfl, rfl, rfl, rfl, rfl, trivial⟩, ⟨rfl, trivial⟩, rfl, rfl⟩⟩
   rcases Nat.lt_or_ge j i with h6 | h6
   ·exact hno j y h6 hy2
   ·obtain rfl : j = i := by omega
    rw [ht] at hy2; cases hy2; exact hy
  ·obtain rfl : i = x.args.length := by omega
   have hn2 : ¬ ∃ y ∈ x.args, y.hasSym s := fun ⟨y, hy, h2⟩ => by
    have w_ := List.mem_iff_getElem?.1 hy
    obtain ⟨j, hj⟩ := w_
    exact hno j y (List.getElem?_eq_some_iff.1 hj).1 hj h2
   refine ifd (fun h2 => ?_) (fun h2 => rGv (isF fun k => ((T.hasSym_args s x).1 k).elim (fun k => h2 k.1) hn2) rfl)
   refine rGv ?_ rfl
   congr 1
   rw [Bool.eq_iff_iff, decide_eq_true_eq, decide_eq_true_eq]
   exact ⟨fun k => (T.hasSym_args s x).2 (.inl ⟨h2, k⟩), fun k => ((T.hasSym_args s x).1 k).elim (fun k => k.2) fun k => absurd k hn2⟩
theorem hasSymbol_spec (s : ByteArray) : ∀ (x : T) {v : Value}, RepV μ x.tm.d v → Gives Try.prog 90 [v, .string s] μ (.bool (decide (x.hasSym s))) :=
 T.ind fun x ih v hv => by
  have w_ := T.inv hv
  obtain ⟨b1, c1, rfl, hs1⟩ := w_
  refine Spec.mk Try.func90 (by kernel_rfl) ?_
  intro r
  refine ifd (fun h4 => ?_) (fun h4 => ?_)
  ·have w_ := T.kind4 h4
   obtain ⟨a, b, rfl⟩ := w_
   have w_ := T.arg hs1 (i := 0) rfl
   obtain ⟨ad1, p1, e1, g1⟩ := w_
   have w_ := T.arg hs1 (i := 1) rfl
   obtain ⟨ad3, p3, e3, g3⟩ := w_
   refine eIn e1 (cGv (ih a (by simp [T.args]) g1) ?_)
   refine ifd (fun h => rGv (isT (.inl h)) rfl) (fun h => ?_)
   refine eIn e3 (cGv (ih b (by simp [T.args]) g3) (rGv ?_ rfl))
   congr 1
   rw [Bool.eq_iff_iff, decide_eq_true_eq, decide_eq_true_eq]
   exact ⟨.inr, fun k => k.elim (fun k => absurd k h) id⟩
  ·have hno : ¬ ∃ y ∈ x.args, y.hasSym s := fun ⟨y, hy, _⟩ => by
    cases x <;> first | (simp [T.args] at hy; done) | exact h4 rfl
   refine ifd (fun h2 => rGv ?_ rfl) (fun h2 => rGv (isF fun k => ((T.hasSym_args s x).1 k).elim (fun k => h2 k.1) hno) rfl)
   congr 1
   rw [Bool.eq_iff_iff, decide_eq_true_eq, decide_eq_true_eq]
   exact ⟨fun k => (T.hasSym_args s x).2 (.inl ⟨h2, k⟩), fun k => ((T.hasSym_args s x).1 k).elim (fun k => k.2) fun k => absurd k hno⟩
end
end Go.Vx
namespace Go.Vx
open Go.Proofs Classical
section
variable {μ : Mem}
theorem ContainsSymbol_spec (s : ByteArray) (x : T) {v : Value} (hv : RepV μ x.tm.d v) (hx : x.ok) (hw : x.tm.d.wd) : Gives Try.prog 42 [v, .string s] μ (.bool (decide (x.hasSym s))) := by
 have w_ := Tm.invV hv
 obtain ⟨p, rfl⟩ := w_
 refine Spec.mk Try.func42 (by kernel_rfl) ?_
 intro r2
 refine cGv (spec_TermOk_spec x.tm hv hw) ?_
 refine ifd (fun _ => ?_) (fun h => absurd hx.tm h)
 refine cGv (l10Contains_spec s x hv) ?_
 exact rGv rfl rfl
end
end Go.Vx
namespace Go.Vx
open Go.Proofs Classical
theorem Ord3.swo {α : Type} {c : α → α → Int} (h : Ord3 c) : Go.Sort.SWO fun x y => decide (c x y < 0) where
 irrefl x := by have := (h.zero x x).2 rfl; simp; omega
 trans x y z h1 h2 := by
  simp only [decide_eq_true_eq] at *
  exact h.trans _ _ _ h1 h2
 ntrans x y z h1 h2 := by
  simp only [decide_eq_false_iff_not] at *
  intro h3
  by_cases e : x = y
  ·subst e; exact h2 h3
  ·by_cases e2 : y = z
   ·subst e2; exact h1 h3
   ·have a1 := h.anti x y; have a2 := h.anti y x; have z1 := h.zero x y; have z2 := h.zero y x
    have b1 := h.anti y z; have b2 := h.anti z y; have w1 := h.zero y z; have w2 := h.zero z y
    have p1 : c x y ≠ 0 := fun k => e (z1.1 k)
    have p2 : c y z ≠ 0 := fun k => e2 (w1.1 k)
    have q1 : c y x < 0 := a2.2 (by omega)
    have q2 : c z y < 0 := b2.2 (by omega)
    have q3 := h.trans _ _ _ q2 q1
    have a3 := h.anti x z
    omega
end Go.Vx
namespace Go.Vx
open Go.Proofs Classical
section
variable {α : Type} {c : α → α → Int}
theorem Ord3.ge_pos (h : Ord3 c) {x y : α} (h1 : ¬ c x y < 0) (h2 : c x y ≠ 0) : c y x < 0 := (h.anti y x).2 (by omega)
theorem Asc3.ins (h : Ord3 c) {l : List α} {e : α} {k : Nat} (hl : Asc3 c l) (h1 : ∀ x ∈ l.take k, c x e < 0) (h2 : ∀ x ∈ l.drop k, c e x < 0) : Asc3 c (insAt l e k) := by
 rw [insAt, Asc3, List.pairwise_append]
 refine ⟨hl.sublist (List.take_sublist _ _), ?_, fun a ha b hb => ?_⟩
 ·exact List.pairwise_cons.2 ⟨h2, hl.sublist (List.drop_sublist _ _)⟩
 ·rcases List.mem_cons.1 hb with rfl | hb
  ·exact h1 a ha
  ·exact h.trans _ _ _ (h1 a ha) (h2 b hb)
theorem exists_ins (h : Ord3 c) (e : α) : ∀ l : List α, Asc3 c l → e ∈ l ∨ ∃ k, (∀ x ∈ l.take k, c x e < 0) ∧ ∀ x ∈ l.drop k, c e x < 0
 | [], _ => .inr ⟨0, by simp, by simp⟩
 | a :: l, hl => by
  have w_ := List.pairwise_cons.1 hl
  obtain ⟨ha, hl⟩ := w_
  by_cases h0 : c e a = 0
  ·exact .inl (by rw [(h.zero _ _).1 h0]; simp)
  ·by_cases h1 : c e a < 0
   ·exact .inr ⟨0, by simp, fun x hx => by
     rcases List.mem_cons.1 hx with rfl | hx
     ·exact h1
     ·exact h.trans _ _ _ h1 (ha x hx)⟩
   ·have h3 := h.ge_pos h1 h0
    rcases exists_ins h e l hl with k | ⟨k, k1, k2⟩
    ·exact .inl (List.mem_cons_of_mem _ k)
    ·exact .inr ⟨k + 1, fun x hx => by
      rw [List.take_succ_cons] at hx
      rcases List.mem_cons.1 hx with rfl | hx
      ·exact h3
      ·exact k1 x hx, fun x hx => k2 x (by simpa using hx)⟩
theorem exists_asc (h : Ord3 c) : ∀ l : List α, ∃ m, Asc3 c m ∧ m.length ≤ l.length ∧ ∀ x, x ∈ m ↔ x ∈ l
 | [] => ⟨[], List.Pairwise.nil, Nat.le_refl _, fun _ => Iff.rfl⟩
 | a :: l => by
  have w_ := exists_asc h l
  obtain ⟨m, h1, h9, h2⟩ := w_
  rcases exists_ins h a m h1 with k | ⟨k, k1, k2⟩
  ·exact ⟨m, h1, by rw [List.length_cons]; omega, fun x => by
    rw [h2 x, List.mem_cons]
    exact ⟨.inr, fun g => g.elim (fun e => by subst e; exact (h2 _).1 k) id⟩⟩
  ·exact ⟨insAt m a k, h1.ins h k1 k2, by rw [insAt_length, List.length_cons]; omega, fun x => by rw [insAt_mem, h2 x, List.mem_cons]⟩
noncomputable def ascOf (h : Ord3 c) (l : List α) : List α := (exists_asc h l).choose
theorem ascOf_asc (h : Ord3 c) (l : List α) : Asc3 c (ascOf h l) := (exists_asc h l).choose_spec.1
theorem ascOf_len (h : Ord3 c) (l : List α) : (ascOf h l).length ≤ l.length := (exists_asc h l).choose_spec.2.1
theorem ascOf_mem (h : Ord3 c) (l : List α) (x : α) : x ∈ ascOf h l ↔ x ∈ l := (exists_asc h l).choose_spec.2.2 x
theorem ascOf_eq (h : Ord3 c) {l m : List α} (hm : Asc3 c m) (e : ∀ x, x ∈ m ↔ x ∈ l) : m = ascOf h l := hm.uniq h (ascOf_asc h l) fun x => by rw [e, ascOf_mem]
end
end Go.Vx
namespace Go.Vx
open Go.Proofs Classical
open Go.Sort
abbrev fdata (lf sf : FuncId) (lb sb : List Value) : Value := .agg #[.func (.func lf) #[] lb.toArray, .func (.func sf) #[] sb.toArray]
abbrev fblk (r : Nat) (lf sf : FuncId) (lb sb : List Value) : List (Nat × Option LB) := [(0, some (.cells r [.val (.func (.func lf) #[] lb.toArray), .val (.func (.func sf) #[] sb.toArray)] 141))]
structure SortBy {α : Type} [Inhabited α] (lf sf : FuncId) (lb sb : List Value) (n : Nat) (lt : α → α → Bool) (μ0 : Mem) (J : Array α → Mem) (V : Array α → Prop) : Prop where
 max : n ≤ 1000000000000
 size : ∀ {d}, V d → d.size = n
 sw : ∀ {d : Array α} {i j : Nat}, V d → i < n → j < n → V (swp d i j)
 dom : ∀ {d d' : Array α} {b : Nat}, V d → V d' → J d b = none → J d' b = none
 less : ∀ {μ : Mem} {d : Array α} {i j : Nat}, μ0.Le μ → V d → i < n → j < n → SpecH Try.prog lf (.int .i64 i :: .int .i64 j :: lb) μ (J d) fun v μ' h' => v = .bool (lt d[i]! d[j]!) ∧ μ' = μ ∧ h' = J d
 swap : ∀ {μ : Mem} {d : Array α} {i j : Nat}, μ0.Le μ → V d → i < n → j < n → SpecH Try.prog sf (.int .i64 i :: .int .i64 j :: sb) μ (J d) fun v μ' h' => v = .tuple #[] ∧ μ' = μ ∧ h' = J (swp d i j)
section
variable {α : Type} [Inhabited α] {lf sf : FuncId} {lb sb : List Value} {n : Nat} {lt : α → α → Bool} {μ0 : Mem} {J : Array α → Mem} {V : Array α → Prop} {μ : Mem} {d : Array α}
theorem insertionSortF_spec (H : SortBy lf sf lb sb n lt μ0 J V) {a b : Nat} (hle : μ0.Le μ) (hV : V d) (ha : a ≤ b) (hb : b ≤ n) :
  SpecH Try.prog 146 [fdata lf sf lb sb, .int .i64 a, .int .i64 b] μ (J d) fun v μ' h' => v = .tuple #[] ∧ μ' = μ ∧ h' = J (insertionSort lt d a b) ∧ V (insertionSort lt d a b) := by
 have hn := H.max
 refine SpecH.mk [] Try.func146 (by kernel_rfl) ?_
 intro r1
 rw [insertionSort]
 generalize hD : insOuter lt a b (a + 1) d = D
 refine nEq (x := ((a + 1 : Nat) : Int)) (by rw [wrap64 (by omega) (by omega)]; omega) ?_
 refine lIn (fun p : Nat × Array α => a + 1 ≤ p.1 ∧ p.1 ≤ max b (a + 1) ∧ V p.2 ∧ insOuter lt a b p.1 p.2 = D)
  (fun (i, d) => ⟨[(1, .val (.int .i64 a)), (2, .val (.int .i64 b)), (3, .loc 0 r1 0), (6, .val (.int .i64 i))], fblk r1 lf sf lb sb, 1, μ, J d⟩) (fun p => b - p.1)
  (a + 1, d) ⟨by omega, by omega, hV, hD⟩ (fun (_, _) => ⟨rfl, rfl⟩) ⟨⟨rfl, rfl, rfl, rfl, trivial⟩, ⟨rfl, trivial⟩, rfl, rfl⟩ ?_
 rintro ⟨i, d1⟩ ⟨hi1, hi2, hs, hJ⟩
 dsimp only at hi1 hi2 hs hJ
 rw [insOuter] at hJ
 refine ifd (fun h => ?_) (fun h => ?_)
 ·rw [if_pos (by omega)] at hJ
  refine lIn (fun p : Nat × Array α => p.1 < n ∧ V p.2 ∧ insInner lt a p.1 p.2 = insInner lt a i d1)
   (fun (j, d) => ⟨[(1, .val (.int .i64 a)), (2, .val (.int .i64 b)), (3, .loc 0 r1 0), (6, .val (.int .i64 i)), (7, .val (.int .i64 j))], fblk r1 lf sf lb sb, 1, μ, J d⟩) (fun p => p.1)
   (i, d1) ⟨by omega, hs, rfl⟩ (fun (_, _) => ⟨rfl, rfl⟩) ⟨⟨rfl, rfl, rfl, rfl, rfl, trivial⟩, ⟨rfl, trivial⟩, rfl, rfl⟩ ?_
  rintro ⟨j, d2⟩ ⟨hj, hs2, hJ2⟩
  dsimp only at hj hs2 hJ2
  refine ifd (fun hja => ?_) (fun hja => ?_)
  ·obtain ⟨j, rfl⟩ : ∃ k, j = k + 1 := ⟨j - 1, by omega⟩
   rw [insInner] at hJ2
   refine nEq (x := ((j : Nat) : Int)) (by rw [wrap64 (by omega) (by omega)]; omega) ?_
   refine cOw (H.less hle hs2 (i := j + 1) (j := j) (by omega) (by omega)) fun v μ' h' hle' hap hR => ?_
   obtain ⟨rfl, e2, rfl⟩ := hR
   obtain rfl := e2.symm
   clear hle' hap
   have g : decide (j + 1 > a) = true := decide_eq_true (by omega)
   refine iIn (fun hl => ?_) (fun hl => ?_)
   ·rw [g, hl, Bool.and_self, if_pos rfl] at hJ2
    refine nEq (x := ((j : Nat) : Int)) (by rw [wrap64 (by omega) (by omega)]; omega) ?_
    refine cOw (H.swap hle hs2 (i := j + 1) (j := j) (by omega) (by omega)) fun v μ' h' hle' hap hR => ?_
    obtain ⟨rfl, e2, rfl⟩ := hR
    obtain rfl := e2.symm
    clear hle' hap
    refine nEq (x := ((j : Nat) : Int)) (by rw [wrap64 (by omega) (by omega)]; omega) ?_
    exact ⟨(j, swp d2 (j + 1) j), ⟨by dsimp only; omega, H.sw hs2 (by omega) (by omega), hJ2⟩, by dsimp only; omega, ⟨⟨rfl, rfl, rfl, rfl, rfl, trivial⟩, ⟨rfl, trivial⟩, rfl, rfl⟩⟩
   ·rw [hl, Bool.and_false, if_neg (by simp)] at hJ2
    exact num64 (by omega) (by omega) ⟨(i + 1, d2), ⟨by dsimp only; omega, by dsimp only; omega, hs2, by dsimp only; rw [hJ2]; exact hJ⟩, by dsimp only; omega, ⟨⟨rfl, rfl, rfl, rfl, trivial⟩, ⟨rfl, trivial⟩, rfl, rfl⟩⟩
  ·have hJ3 : insInner lt a j d2 = d2 := by
    cases j with
    | zero => rfl
    | succ j => rw [insInner, if_neg]; simp; omega
   rw [hJ3] at hJ2
   exact num64 (by omega) (by omega) ⟨(i + 1, d2), ⟨by dsimp only; omega, by dsimp only; omega, hs2, by dsimp only; rw [hJ2]; exact hJ⟩, by dsimp only; omega, ⟨⟨rfl, rfl, rfl, rfl, trivial⟩, ⟨rfl, trivial⟩, rfl, rfl⟩⟩
 ·rw [if_neg (by omega)] at hJ
  subst hJ
  exact rPl ⟨rfl, rfl, rfl, hs⟩
theorem reverseRangeF_spec (H : SortBy lf sf lb sb n lt μ0 J V) {a b : Nat} (hle : μ0.Le μ) (hV : V d) (hb1 : 1 ≤ b) (ha : a ≤ b) (hb : b ≤ n) :
  SpecH Try.prog 155 [fdata lf sf lb sb, .int .i64 a, .int .i64 b] μ (J d) fun v μ' h' => v = .tuple #[] ∧ μ' = μ ∧ h' = J (reverseRange d a b) ∧ V (reverseRange d a b) := by
 have hn := H.max
 refine SpecH.mk [] Try.func155 (by kernel_rfl) ?_
 intro r1
 rw [reverseRange]
 generalize hD : reverseLoop a (b - 1) d = D
 refine nEq (x := ((b - 1 : Nat) : Int)) (by rw [wrap64 (by omega) (by omega)]; omega) ?_
 refine lIn (fun p : Nat × Nat × Array α => p.2.1 < n ∧ p.1 ≤ n ∧ V p.2.2 ∧ reverseLoop p.1 p.2.1 p.2.2 = D)
  (fun (i, j, d) => ⟨[(3, .loc 0 r1 0), (6, .val (.int .i64 i)), (7, .val (.int .i64 j))], fblk r1 lf sf lb sb, 1, μ, J d⟩) (fun p => p.2.1)
  (a, b - 1, d) ⟨by dsimp only; omega, by dsimp only; omega, hV, hD⟩ (fun (_, _, _) => ⟨rfl, rfl⟩) ⟨⟨rfl, rfl, rfl, trivial⟩, ⟨rfl, trivial⟩, rfl, rfl⟩ ?_
 rintro ⟨i, j, d1⟩ ⟨hj, hi, hs, hJ⟩
 dsimp only at hj hi hs hJ
 rw [reverseLoop] at hJ
 refine ifd (fun h => ?_) (fun h => ?_)
 ·rw [if_pos (by omega)] at hJ
  refine cOw (H.swap hle hs (i := i) (j := j) (by omega) (by omega)) fun v μ' h' hle' hap hR => ?_
  obtain ⟨rfl, e2, rfl⟩ := hR
  obtain rfl := e2.symm
  clear hle' hap
  refine nEq (x := ((i + 1 : Nat) : Int)) (by rw [wrap64 (by omega) (by omega)]; omega) ?_
  refine nEq (x := ((j - 1 : Nat) : Int)) (by rw [wrap64 (by omega) (by omega)]; omega) ?_
  exact ⟨(i + 1, j - 1, swp d1 i j), ⟨by dsimp only; omega, by dsimp only; omega, H.sw hs (by omega) (by omega), hJ⟩, by dsimp only; omega, ⟨⟨rfl, rfl, rfl, trivial⟩, ⟨rfl, trivial⟩, rfl, rfl⟩⟩
 ·rw [if_neg (by omega)] at hJ
  subst hJ
  exact rPl ⟨rfl, rfl, rfl, hs⟩
theorem siftDownF_spec (H : SortBy lf sf lb sb n lt μ0 J V) {lo hi first : Nat} (hle : μ0.Le μ) (hV : V d) (hb : first + hi ≤ n) (hl : lo ≤ n) :
  SpecH Try.prog 167 [fdata lf sf lb sb, .int .i64 lo, .int .i64 hi, .int .i64 first] μ (J d) fun v μ' h' => v = .tuple #[] ∧ μ' = μ ∧ h' = J (siftDown lt hi first lo d) ∧ V (siftDown lt hi first lo d) := by
 have hn := H.max
 refine SpecH.mk [] Try.func167 (by kernel_rfl) ?_
 intro r1
 generalize hD : siftDown lt hi first lo d = D
 refine lIn (fun p : Nat × Array α => p.1 ≤ n ∧ V p.2 ∧ siftDown lt hi first p.1 p.2 = D)
  (fun (i, d) => ⟨[(2, .val (.int .i64 hi)), (3, .val (.int .i64 first)), (4, .loc 0 r1 0), (8, .val (.int .i64 i))], fblk r1 lf sf lb sb, 1, μ, J d⟩) (fun p => hi - p.1)
  (lo, d) ⟨hl, hV, hD⟩ (fun (_, _) => ⟨rfl, rfl⟩) ⟨⟨rfl, rfl, rfl, rfl, trivial⟩, ⟨rfl, trivial⟩, rfl, rfl⟩ ?_
 rintro ⟨i, d1⟩ ⟨hi1, hs, hJ⟩
 dsimp only at hi1 hs hJ
 rw [siftDown] at hJ
 refine nEq (x := ((2 * i : Nat) : Int)) (by rw [wrap64 (by omega) (by omega)]; omega) ?_
 refine nEq (x := ((2 * i + 1 : Nat) : Int)) (by rw [wrap64 (by omega) (by omega)]; omega) ?_
 refine ifd (fun h => ?_) (fun h => ?_)
 ·rw [dif_pos (by omega)] at hJ
  subst hJ
  exact rPl ⟨rfl, rfl, rfl, hs⟩
 rw [dif_neg (by omega)] at hJ
 refine nEq (x := ((2 * i + 1 + 1 : Nat) : Int)) (by rw [wrap64 (by omega) (by omega)]; omega) ?_
 refine ifd (fun h2 => ?_) (fun h2 => ?_)
 ·refine nEq (x := ((first + (2 * i + 1) : Nat) : Int)) (by rw [wrap64 (by omega) (by omega)]; omega) ?_
  refine nEq (x := ((first + (2 * i + 1) : Nat) : Int)) (by rw [wrap64 (by omega) (by omega)]; omega) ?_
  refine nEq (x := ((first + (2 * i + 1) + 1 : Nat) : Int)) (by rw [wrap64 (by omega) (by omega)]; omega) ?_
  refine cOw (H.less hle hs (i := first + (2 * i + 1)) (j := first + (2 * i + 1) + 1) (by omega) (by omega)) fun v μ' h' hle' hap hR => ?_
  obtain ⟨rfl, e2, rfl⟩ := hR
  obtain rfl := e2.symm
  clear hle' hap
  have g : decide (2 * i + 1 + 1 < hi) = true := decide_eq_true (by omega)
  refine iIn (fun hl => ?_) (fun hl => ?_)
  ·rw [g, hl, Bool.and_self, if_pos rfl] at hJ
   refine nEq (x := ((2 * i + 2 : Nat) : Int)) (by rw [wrap64 (by omega) (by omega)]; omega) ?_
   refine nEq (x := ((first + i : Nat) : Int)) (by rw [wrap64 (by omega) (by omega)]; omega) ?_
   refine nEq (x := ((first + (2 * i + 2) : Nat) : Int)) (by rw [wrap64 (by omega) (by omega)]; omega) ?_
   refine cOw (H.less hle hs (i := first + i) (j := first + (2 * i + 2)) (by omega) (by omega)) fun v μ' h' hle' hap hR => ?_
   obtain ⟨rfl, e2, rfl⟩ := hR
   obtain rfl := e2.symm
   clear hle' hap
   refine iIn (fun hl => ?_) (fun hl => ?_)
   ·rw [if_pos (by simpa using hl)] at hJ
    subst hJ
    exact rPl ⟨rfl, rfl, rfl, hs⟩
   ·rw [if_neg (by simpa using hl)] at hJ
    try rw [dif_pos (by omega)] at hJ
    refine nEq (x := ((first + i : Nat) : Int)) (by rw [wrap64 (by omega) (by omega)]; omega) ?_
    refine nEq (x := ((first + (2 * i + 2) : Nat) : Int)) (by rw [wrap64 (by omega) (by omega)]; omega) ?_
    refine cOw (H.swap hle hs (i := first + i) (j := first + (2 * i + 2)) (by omega) (by omega)) fun v μ' h' hle' hap hR => ?_
    obtain ⟨rfl, e2, rfl⟩ := hR
    obtain rfl := e2.symm
    clear hle' hap
    exact ⟨(2 * i + 2, swp d1 (first + i) (first + (2 * i + 2))), ⟨by dsimp only; omega, H.sw hs (by omega) (by omega), hJ⟩, by dsimp only; omega, ⟨⟨rfl, rfl, rfl, rfl, trivial⟩, ⟨rfl, trivial⟩, rfl, rfl⟩⟩
  ·rw [hl, Bool.and_false, if_neg (by simp)] at hJ
   refine nEq (x := ((first + i : Nat) : Int)) (by rw [wrap64 (by omega) (by omega)]; omega) ?_
   refine nEq (x := ((first + (2 * i + 1) : Nat) : Int)) (by rw [wrap64 (by omega) (by omega)]; omega) ?_
   refine cOw (H.less hle hs (i := first + i) (j := first + (2 * i + 1)) (by omega) (by omega)) fun v μ' h' hle' hap hR => ?_
   obtain ⟨rfl, e2, rfl⟩ := hR
   obtain rfl := e2.symm
   clear hle' hap
   refine iIn (fun hl => ?_) (fun hl => ?_)
   ·rw [if_pos (by simpa using hl)] at hJ
    subst hJ
    exact rPl ⟨rfl, rfl, rfl, hs⟩
   ·rw [if_neg (by simpa using hl)] at hJ
    try rw [dif_pos (by omega)] at hJ
    refine nEq (x := ((first + i : Nat) : Int)) (by rw [wrap64 (by omega) (by omega)]; omega) ?_
    refine nEq (x := ((first + (2 * i + 1) : Nat) : Int)) (by rw [wrap64 (by omega) (by omega)]; omega) ?_
    refine cOw (H.swap hle hs (i := first + i) (j := first + (2 * i + 1)) (by omega) (by omega)) fun v μ' h' hle' hap hR => ?_
    obtain ⟨rfl, e2, rfl⟩ := hR
    obtain rfl := e2.symm
    clear hle' hap
    exact ⟨(2 * i + 1, swp d1 (first + i) (first + (2 * i + 1))), ⟨by dsimp only; omega, H.sw hs (by omega) (by omega), hJ⟩, by dsimp only; omega, ⟨⟨rfl, rfl, rfl, rfl, trivial⟩, ⟨rfl, trivial⟩, rfl, rfl⟩⟩
 ·have g : decide (2 * i + 1 + 1 < hi) = false := decide_eq_false (by omega)
  rw [g, Bool.false_and, if_neg (by simp)] at hJ
  refine nEq (x := ((first + i : Nat) : Int)) (by rw [wrap64 (by omega) (by omega)]; omega) ?_
  refine nEq (x := ((first + (2 * i + 1) : Nat) : Int)) (by rw [wrap64 (by omega) (by omega)]; omega) ?_
  refine cOw (H.less hle hs (i := first + i) (j := first + (2 * i + 1)) (by omega) (by omega)) fun v μ' h' hle' hap hR => ?_
  obtain ⟨rfl, e2, rfl⟩ := hR
  obtain rfl := e2.symm
  clear hle' hap
  refine iIn (fun hl => ?_) (fun hl => ?_)
  ·rw [if_pos (by simpa using hl)] at hJ
   subst hJ
   exact rPl ⟨rfl, rfl, rfl, hs⟩
  ·rw [if_neg (by simpa using hl)] at hJ
   try rw [dif_pos (by omega)] at hJ
   refine nEq (x := ((first + i : Nat) : Int)) (by rw [wrap64 (by omega) (by omega)]; omega) ?_
   refine nEq (x := ((first + (2 * i + 1) : Nat) : Int)) (by rw [wrap64 (by omega) (by omega)]; omega) ?_
   refine cOw (H.swap hle hs (i := first + i) (j := first + (2 * i + 1)) (by omega) (by omega)) fun v μ' h' hle' hap hR => ?_
   obtain ⟨rfl, e2, rfl⟩ := hR
   obtain rfl := e2.symm
   clear hle' hap
   exact ⟨(2 * i + 1, swp d1 (first + i) (first + (2 * i + 1))), ⟨by dsimp only; omega, H.sw hs (by omega) (by omega), hJ⟩, by dsimp only; omega, ⟨⟨rfl, rfl, rfl, rfl, trivial⟩, ⟨rfl, trivial⟩, rfl, rfl⟩⟩
theorem heapSortF_spec (H : SortBy lf sf lb sb n lt μ0 J V) {a b : Nat} (hle : μ0.Le μ) (hV : V d) (ha : a < b) (hb : b ≤ n) :
  SpecH Try.prog 152 [fdata lf sf lb sb, .int .i64 a, .int .i64 b] μ (J d) fun v μ' h' => v = .tuple #[] ∧ μ' = μ ∧ h' = J (heapSort lt d a b) ∧ V (heapSort lt d a b) := by
 have hn := H.max
 refine SpecH.mk [] Try.func152 (by kernel_rfl) ?_
 intro r1
 rw [heapSort]
 generalize hD1 : heapBuild lt (b - a) a ((b - a - 1) / 2 + 1) d = D1
 generalize hD : heapPop lt a (b - a) D1 = D
 refine nEq (x := ((b - a : Nat) : Int)) (by rw [wrap64 (by omega) (by omega)]; omega) ?_
 refine nEq (x := ((b - a - 1 : Nat) : Int)) (by rw [wrap64 (by omega) (by omega)]; omega) ?_
 refine need_intro (by decide) ?_
 refine nEq (x := (((b - a - 1) / 2 + 1 : Nat) : Int) - 1) (by rw [Int.tdiv_eq_ediv_of_nonneg (by omega), wrap64 (by omega) (by omega)]; omega) ?_
 refine lIn (fun p : Nat × Array α => p.1 ≤ b - a ∧ V p.2 ∧ heapBuild lt (b - a) a p.1 p.2 = D1)
  (fun (k, d) => ⟨[(3, .loc 0 r1 0), (6, .val (.int .i64 a)), (7, .val (.int .i64 0)), (8, .val (.int .i64 (b - a : Nat))), (9, .val (.int .i64 ((k : Int) - 1)))], fblk r1 lf sf lb sb, 1, μ, J d⟩) (fun p => p.1)
  ((b - a - 1) / 2 + 1, d) ⟨by dsimp only; omega, hV, hD1⟩ (fun (_, _) => ⟨rfl, rfl⟩) ⟨⟨rfl, rfl, rfl, rfl, rfl, trivial⟩, ⟨rfl, trivial⟩, rfl, rfl⟩ ?_
 rintro ⟨k, d1⟩ ⟨hk, hs, hJ⟩
 dsimp only at hk hs hJ
 refine ifd (fun h => ?_) (fun h => ?_)
 ·obtain ⟨k, rfl⟩ : ∃ m, k = m + 1 := ⟨k - 1, by omega⟩
  rw [heapBuild] at hJ
  have e : (((k + 1 : Nat) : Int) - 1) = (k : Nat) := by omega
  rw [e]
  refine cOw (siftDownF_spec H (lo := k) (hi := b - a) (first := a) hle hs (by omega) (by omega)) fun v μ' h' hle' hap hR => ?_
  obtain ⟨rfl, e2, rfl, hs2⟩ := hR
  obtain rfl := e2.symm
  refine nEq (x := (k : Int) - 1) (by rw [wrap64 (by omega) (by omega)]) ?_
  exact ⟨(k, siftDown lt (b - a) a k d1), ⟨by dsimp only; omega, hs2, hJ⟩, by dsimp only; omega, ⟨⟨rfl, rfl, rfl, rfl, rfl, trivial⟩, ⟨rfl, trivial⟩, rfl, rfl⟩⟩
 obtain rfl : k = 0 := by omega
 have hJ : d1 = D1 := hJ
 subst hJ
 refine nEq (x := ((b - a : Nat) : Int) - 1) (by rw [wrap64 (by omega) (by omega)]) ?_
 refine lIn (fun p : Nat × Array α => p.1 ≤ b - a ∧ V p.2 ∧ heapPop lt a p.1 p.2 = D)
  (fun (k, d) => ⟨[(3, .loc 0 r1 0), (6, .val (.int .i64 a)), (7, .val (.int .i64 0)), (10, .val (.int .i64 ((k : Int) - 1)))], fblk r1 lf sf lb sb, 1, μ, J d⟩) (fun p => p.1)
  (b - a, d1) ⟨by dsimp only; omega, hs, hD⟩ (fun (_, _) => ⟨rfl, rfl⟩) ⟨⟨rfl, rfl, rfl, rfl, trivial⟩, ⟨rfl, trivial⟩, rfl, rfl⟩ ?_
 rintro ⟨k, d2⟩ ⟨hk, hs2, hJ⟩
 dsimp only at hk hs2 hJ
 refine ifd (fun h => ?_) (fun h => ?_)
 ·obtain ⟨k, rfl⟩ : ∃ m, k = m + 1 := ⟨k - 1, by omega⟩
  rw [heapPop] at hJ
  have e : (((k + 1 : Nat) : Int) - 1) = (k : Nat) := by omega
  rw [e]
  refine nEq (x := ((a + k : Nat) : Int)) (by rw [wrap64 (by omega) (by omega)]; omega) ?_
  refine cOw (H.swap hle hs2 (i := a) (j := a + k) (by omega) (by omega)) fun v μ' h' hle' hap hR => ?_
  obtain ⟨rfl, e2, rfl⟩ := hR
  obtain rfl := e2.symm
  clear hle' hap
  refine cOw (siftDownF_spec H (d := swp d2 a (a + k)) (lo := 0) (hi := k) (first := a) hle (H.sw hs2 (by omega) (by omega)) (by omega) (by omega)) fun v μ' h' hle' hap hR => ?_
  obtain ⟨rfl, e2, rfl, hs3⟩ := hR
  obtain rfl := e2.symm
  refine nEq (x := (k : Int) - 1) (by rw [wrap64 (by omega) (by omega)]) ?_
  exact ⟨(k, _), ⟨by dsimp only; omega, hs3, hJ⟩, by dsimp only; omega, ⟨⟨rfl, rfl, rfl, rfl, trivial⟩, ⟨rfl, trivial⟩, rfl, rfl⟩⟩
 obtain rfl : k = 0 := by omega
 have hJ : d2 = D := hJ
 subst hJ
 exact rPl ⟨rfl, rfl, rfl, hs2⟩
end
end Go.Vx
namespace Go.Vx
open Go.Proofs Classical
open Go.Sort
theorem parts_set {g : Mem} {r : Nat} {o : Obj} (h : g r = none) : Parts (g.set r o) (Mem.nil.set r o) g := fun b => by
 by_cases e : b = r
 ·subst e; exact .inl ⟨by rw [Mem.set_at, Mem.set_at], h⟩
 ·exact .inr ⟨by rw [Mem.set_ne e], by rw [Mem.set_ne e]; rfl⟩
section
variable {α : Type} {J : Array α → Mem} {μ : Mem} {d : Array α} {rs : Nat} {s : Int}
abbrev JS (J : Array α → Mem) (rs : Nat) (s : Int) (d : Array α) : Mem := (J d).set rs (.cells #[.int .i64 s] 3 (0, 0))
theorem rdC {K : List Value → Prop} (h : K [.int .i64 s]) : extVC μ (JS J rs s d) ⟨rs, 0, none⟩ 1 K := oIn _ rfl (box_at (Mem.set_at _ _ _)) h
theorem wrC {v : Int} {K : Mem → Prop} (h : K (JS J rs v d)) : stoVC (JS J rs s d) ⟨rs, 0, none⟩ [.int .i64 v] K := by
 refine sIn [.int .i64 s] 3 (Mem.set_at _ _ _) rfl (Nat.le_refl _) ?_
 have e : Mem.set (JS J rs s d) rs (.cells #[.int .i64 v] 3 (0, 0)) = JS J rs v d := by rw [Mem.set_set]
 show K (Mem.set (JS J rs s d) rs (.cells #[.int .i64 v] 3 (0, 0)))
 rw [e]; exact h
end
section
variable {α : Type} [Inhabited α] {lf sf : FuncId} {lb sb : List Value} {n : Nat} {lt : α → α → Bool} {μ0 : Mem} {J : Array α → Mem} {V : Array α → Prop} {μ : Mem} {d : Array α} {rs : Nat} {s : Int}
theorem SortBy.beside (H : SortBy lf sf lb sb n lt μ0 J V) (o : Obj) (h : ∀ d, V d → J d rs = none) : SortBy lf sf lb sb n lt μ0 (fun d => (J d).set rs o) V where
 max := H.max
 size := H.size
 sw := H.sw
 dom hV hV' hb := by
  simp only [Mem.set_get] at hb ⊢
  split at hb
  ·cases hb
  ·rename_i e; rw [if_neg e]; exact H.dom hV hV' hb
 less hle hV hi hj := (SpecH.frame (parts_set (h _ hV)).symm (H.less hle hV hi hj)).weaken fun v μ' h' _ _ ⟨g, ⟨e1, e2, e3⟩, p⟩ => ⟨e1, e2, by rw [e3] at p; exact p.eq (parts_set (h _ hV)).symm⟩
 swap hle hV hi hj := (SpecH.frame (parts_set (h _ hV)).symm (H.swap hle hV hi hj)).weaken fun v μ' h' _ _ ⟨g, ⟨e1, e2, e3⟩, p⟩ => ⟨e1, e2, by rw [e3] at p; exact p.eq (parts_set (h _ (H.sw hV hi hj))).symm⟩
theorem order2F_spec (H : ∀ s, SortBy lf sf lb sb n lt μ0 (JS J rs s) V) {a b : Nat} (hle : μ0.Le μ) (hV : V d) (ha : a < n) (hb : b < n) :
  SpecH Try.prog 174 [fdata lf sf lb sb, .int .i64 a, .int .i64 b, .pointer (some ⟨rs, 0, none⟩)] μ (JS J rs s d) fun v μ' h' =>
   ∃ x y : Nat, ((x = a ∧ y = b) ∨ (x = b ∧ y = a)) ∧ v = .tuple #[.int .i64 x, .int .i64 y] ∧ μ' = μ ∧ ∃ s', h' = JS J rs s' d := by
 refine SpecH.mk [] Try.func174 (by kernel_rfl) ?_
 intro r1
 refine cOw ((H s).less hle hV (i := b) (j := a) hb ha) fun v μ' h' hle' hap hR => ?_
 obtain ⟨rfl, e2, rfl⟩ := hR
 obtain rfl := e2.symm
 refine iIn (fun hl => ?_) (fun hl => ?_)
 ·refine rdC ?_
  refine num_intro fun x _ => ?_
  refine wrC ?_
  exact rPl ⟨b, a, .inr ⟨rfl, rfl⟩, rfl, rfl, _, rfl⟩
 ·exact rPl ⟨a, b, .inl ⟨rfl, rfl⟩, rfl, rfl, _, rfl⟩
theorem medianF_spec (H : ∀ s, SortBy lf sf lb sb n lt μ0 (JS J rs s) V) {a b c : Nat} (hle : μ0.Le μ) (hV : V d) (ha : a < n) (hb : b < n) (hc : c < n) :
  SpecH Try.prog 171 [fdata lf sf lb sb, .int .i64 a, .int .i64 b, .int .i64 c, .pointer (some ⟨rs, 0, none⟩)] μ (JS J rs s d) fun v μ' h' =>
   ∃ x : Nat, (x = a ∨ x = b ∨ x = c) ∧ v = .int .i64 x ∧ μ' = μ ∧ ∃ s', h' = JS J rs s' d := by
 refine SpecH.mk [] Try.func171 (by kernel_rfl) ?_
 intro r1
 refine cOw (order2F_spec H hle hV ha hb) fun v μ' h' hle' hap hR => ?_
 obtain ⟨x1, y1, o1, rfl, e1, s1, rfl⟩ := hR
 obtain rfl := e1.symm
 refine cOw (order2F_spec H (a := y1) (b := c) hle hV (by omega) hc) fun v μ' h' hle' hap hR => ?_
 obtain ⟨x2, y2, o2, rfl, e2, s2, rfl⟩ := hR
 obtain rfl := e2.symm
 refine cOw (order2F_spec H (a := x1) (b := x2) hle hV (by omega) (by omega)) fun v μ' h' hle' hap hR => ?_
 obtain ⟨x3, y3, o3, rfl, e3, s3, rfl⟩ := hR
 obtain rfl := e3.symm
 exact rPl ⟨y3, by omega, rfl, rfl, _, rfl⟩
theorem medianAdjacentF_spec (H : ∀ s, SortBy lf sf lb sb n lt μ0 (JS J rs s) V) {a : Nat} (hle : μ0.Le μ) (hV : V d) (ha : 1 ≤ a) (hb : a + 1 < n) :
  SpecH Try.prog 170 [fdata lf sf lb sb, .int .i64 a, .pointer (some ⟨rs, 0, none⟩)] μ (JS J rs s d) fun v μ' h' =>
   ∃ x : Nat, (x + 1 = a ∨ x = a ∨ x = a + 1) ∧ v = .int .i64 x ∧ μ' = μ ∧ ∃ s', h' = JS J rs s' d := by
 have hn := (H 0).max
 refine SpecH.mk [] Try.func170 (by kernel_rfl) ?_
 intro r1
 refine nEq (x := ((a - 1 : Nat) : Int)) (by rw [wrap64 (by omega) (by omega)]; omega) ?_
 refine nEq (x := ((a + 1 : Nat) : Int)) (by rw [wrap64 (by omega) (by omega)]; omega) ?_
 refine cOw (medianF_spec H (a := a - 1) (b := a) (c := a + 1) hle hV (by omega) (by omega) (by omega)) fun v μ' h' hle' hap hR => ?_
 obtain ⟨x1, o1, rfl, e1, s1, rfl⟩ := hR
 obtain rfl := e1.symm
 exact rPl ⟨x1, by omega, rfl, rfl, _, rfl⟩
set_option maxHeartbeats 4000000 in
theorem choosePivotF_spec (H : SortBy lf sf lb sb n lt μ0 J V) {a b : Nat} (hle : μ0.Le μ) (hV : V d) (ha : a < b) (hb : b ≤ n) :
  SpecH Try.prog 154 [fdata lf sf lb sb, .int .i64 a, .int .i64 b] μ (J d) fun v _μ' h' =>
   ∃ p k : Nat, a ≤ p ∧ p < b ∧ k ≤ 2 ∧ v = .tuple #[.int .i64 p, .int .i64 k] ∧ h' = J d := by
 have hn := H.max
 refine SpecH.mk [9] Try.func154 (by kernel_rfl) ?_
 intro r1
 refine nEq (x := ((b - a : Nat) : Int)) (by rw [wrap64 (by omega) (by omega)]; omega) ?_
 intro rs hm ho
 have hdom : ∀ d', V d' → J d' rs = none := fun d' hV' => H.dom hV hV' ho
 have H2 : ∀ s, SortBy lf sf lb sb n lt μ0 (JS J rs s) V := fun s => H.beside _ hdom
 have hp : ∀ s, Parts (JS J rs s d) (Mem.nil.set rs (.cells #[.int .i64 s] 3 (0, 0))) (J d) := fun s => parts_set (hdom d hV)
 generalize hH : Mem.set (J d) rs _ = H1
 obtain rfl : H1 = JS J rs 0 d := hH.symm
 clear hH hm
 refine need_intro (by decide) ?_
 refine nEq (x := (((b - a) / 4 : Nat) : Int)) (by rw [Int.tdiv_eq_ediv_of_nonneg (by omega), wrap64 (by omega) (by omega)]; omega) ?_
 refine nEq (x := (((b - a) / 4 * 1 : Nat) : Int)) (by rw [wrap64 (by omega) (by omega)]; omega) ?_
 refine nEq (x := ((a + (b - a) / 4 * 1 : Nat) : Int)) (by rw [wrap64 (by omega) (by omega)]; omega) ?_
 refine need_intro (by decide) ?_
 refine nEq (x := (((b - a) / 4 : Nat) : Int)) (by rw [Int.tdiv_eq_ediv_of_nonneg (by omega), wrap64 (by omega) (by omega)]; omega) ?_
 refine nEq (x := (((b - a) / 4 * 2 : Nat) : Int)) (by rw [wrap64 (by omega) (by omega)]; omega) ?_
 refine nEq (x := ((a + (b - a) / 4 * 2 : Nat) : Int)) (by rw [wrap64 (by omega) (by omega)]; omega) ?_
 refine need_intro (by decide) ?_
 refine nEq (x := (((b - a) / 4 : Nat) : Int)) (by rw [Int.tdiv_eq_ediv_of_nonneg (by omega), wrap64 (by omega) (by omega)]; omega) ?_
 refine nEq (x := (((b - a) / 4 * 3 : Nat) : Int)) (by rw [wrap64 (by omega) (by omega)]; omega) ?_
 refine nEq (x := ((a + (b - a) / 4 * 3 : Nat) : Int)) (by rw [wrap64 (by omega) (by omega)]; omega) ?_
 refine ifd (fun h8 => ?_) (fun h8 => ?_)
 ·refine ifd (fun h50 => ?_) (fun h50 => ?_)
  ·refine cOw (medianAdjacentF_spec H2 (a := a + (b - a) / 4 * 1) hle hV (by omega) (by omega)) fun v μ' h' hle' hap hR => ?_
   obtain ⟨x1, o1, rfl, e1, s1, rfl⟩ := hR
   obtain rfl := e1.symm
   refine cOw (medianAdjacentF_spec H2 (a := a + (b - a) / 4 * 2) hle hV (by omega) (by omega)) fun v μ' h' hle' hap hR => ?_
   obtain ⟨x2, o2, rfl, e1, s2, rfl⟩ := hR
   obtain rfl := e1.symm
   refine cOw (medianAdjacentF_spec H2 (a := a + (b - a) / 4 * 3) hle hV (by omega) (by omega)) fun v μ' h' hle' hap hR => ?_
   obtain ⟨x3, o3, rfl, e1, s3, rfl⟩ := hR
   obtain rfl := e1.symm
   refine cOw (medianF_spec H2 (a := x1) (b := x2) (c := x3) hle hV (by omega) (by omega) (by omega)) fun v μ' h' hle' hap hR => ?_
   obtain ⟨x4, o4, rfl, e1, s4, rfl⟩ := hR
   obtain rfl := e1.symm
   refine rdC ?_
   refine ifd (fun h1 => ?_) (fun h1 => ?_)
   ·exact ret_own _ _ (hp _) ⟨x4, 1, by omega, by omega, by omega, rfl, rfl⟩
   refine ifd (fun h1 => ?_) (fun h1 => ?_)
   ·exact ret_own _ _ (hp _) ⟨x4, 2, by omega, by omega, by omega, rfl, rfl⟩
   exact ret_own _ _ (hp _) ⟨x4, 0, by omega, by omega, by omega, rfl, rfl⟩
  ·refine cOw (medianF_spec H2 (a := a + (b - a) / 4 * 1) (b := a + (b - a) / 4 * 2) (c := a + (b - a) / 4 * 3) hle hV (by omega) (by omega) (by omega)) fun v μ' h' hle' hap hR => ?_
   obtain ⟨x4, o4, rfl, e1, s4, rfl⟩ := hR
   obtain rfl := e1.symm
   refine rdC ?_
   refine ifd (fun h1 => ?_) (fun h1 => ?_)
   ·exact ret_own _ _ (hp _) ⟨x4, 1, by omega, by omega, by omega, rfl, rfl⟩
   refine ifd (fun h1 => ?_) (fun h1 => ?_)
   ·exact ret_own _ _ (hp _) ⟨x4, 2, by omega, by omega, by omega, rfl, rfl⟩
   exact ret_own _ _ (hp _) ⟨x4, 0, by omega, by omega, by omega, rfl, rfl⟩
 ·refine rdC ?_
  refine ifd (fun h1 => ?_) (fun h1 => ?_)
  ·exact ret_own _ _ (hp _) ⟨a + (b - a) / 4 * 2, 1, by omega, by omega, by omega, rfl, rfl⟩
  refine ifd (fun h1 => ?_) (fun h1 => ?_)
  ·exact ret_own _ _ (hp _) ⟨a + (b - a) / 4 * 2, 2, by omega, by omega, by omega, rfl, rfl⟩
  exact ret_own _ _ (hp _) ⟨a + (b - a) / 4 * 2, 0, by omega, by omega, by omega, rfl, rfl⟩
end
end Go.Vx
namespace Go.Vx
open Go.Proofs Classical
open Go.Sort
section
variable {α : Type} [Inhabited α] {lf sf : FuncId} {lb sb : List Value} {n : Nat} {lt : α → α → Bool} {μ0 : Mem} {J : Array α → Mem} {V : Array α → Prop} {μ : Mem} {d : Array α}
theorem partitionEqualF_spec (H : SortBy lf sf lb sb n lt μ0 J V) {a b pivot : Nat} (hle : μ0.Le μ) (hV : V d) (hap : a ≤ pivot) (hpb : pivot < b) (hb : b ≤ n) :
  SpecH Try.prog 157 [fdata lf sf lb sb, .int .i64 a, .int .i64 b, .int .i64 pivot] μ (J d) fun v μ' h' => v = .int .i64 (partitionEqual lt d a b pivot).1 ∧ μ' = μ ∧ h' = J (partitionEqual lt d a b pivot).2 ∧ V (partitionEqual lt d a b pivot).2 := by
 have hn := H.max
 refine SpecH.mk [] Try.func157 (by kernel_rfl) ?_
 intro r1
 rw [partitionEqual]
 generalize hR : partEqLoop lt a (a + 1) (b - 1) (swp d a pivot) = R
 refine cOw (H.swap hle hV (i := a) (j := pivot) (by omega) (by omega)) fun v μ' h' hle' hap hR => ?_
 obtain ⟨rfl, e2, rfl⟩ := hR
 obtain rfl := e2.symm
 clear hle' hap
 refine nEq (x := ((a + 1 : Nat) : Int)) (by rw [wrap64 (by omega) (by omega)]; omega) ?_
 refine nEq (x := ((b - 1 : Nat) : Int)) (by rw [wrap64 (by omega) (by omega)]; omega) ?_
 refine lIn (fun p : Nat × Nat × Array α => a < p.1 ∧ p.1 ≤ p.2.1 + 2 ∧ p.2.1 < b ∧ V p.2.2 ∧ partEqLoop lt a p.1 p.2.1 p.2.2 = R)
  (fun (i, j, d) => ⟨[(1, .val (.int .i64 a)), (4, .loc 0 r1 0), (9, .val (.int .i64 i)), (10, .val (.int .i64 j))], fblk r1 lf sf lb sb, 1, μ, J d⟩) (fun p => p.2.1 + 1 - p.1)
  (a + 1, b - 1, swp d a pivot) ⟨by dsimp only; omega, by dsimp only; omega, by dsimp only; omega, H.sw hV (by omega) (by omega), hR⟩ (fun (_, _, _) => ⟨rfl, rfl⟩) ⟨⟨rfl, rfl, rfl, rfl, trivial⟩, ⟨rfl, trivial⟩, rfl, rfl⟩ ?_
 clear hR
 rintro ⟨i, j, d1⟩ ⟨hai, hij0, hjb, hs, hR⟩
 dsimp only at hai hij0 hjb hs hR
 rw [partEqLoop_eq] at hR
 generalize hU : scanUp (fun x => !lt d1[a]! x) d1 j i = U at *
 refine lIn (fun i' : Nat => i ≤ i' ∧ i' ≤ j + 2 ∧ scanUp (fun x => !lt d1[a]! x) d1 j i' = U) (fun i' => ⟨[(1, .val (.int .i64 a)), (4, .loc 0 r1 0), (9, .val (.int .i64 i')), (10, .val (.int .i64 j))], fblk r1 lf sf lb sb, 1, μ, J d1⟩) (fun i' => j + 1 - i')
  i ⟨by omega, by omega, hU⟩ (fun _ => ⟨rfl, rfl⟩) ⟨⟨rfl, rfl, rfl, rfl, trivial⟩, ⟨rfl, trivial⟩, rfl, rfl⟩ ?_
 clear hU
 rintro i' ⟨h1, h2, hU⟩
 rw [scanUp] at hU
 refine ifd (fun hij => ?_) (fun hij => ?_)
 refine cOw (H.less hle hs (i := a) (j := i') (by omega) (by omega)) fun v μ' h' hle' hap hR => ?_
 obtain ⟨rfl, e2, rfl⟩ := hR
 obtain rfl := e2.symm
 clear hle' hap
 refine iIn (fun hl => ?_) (fun hl => ?_)
 ·rw [if_pos (by simp only [Bool.and_eq_true, decide_eq_true_eq]; exact ⟨by omega, hl⟩)] at hU
  refine nEq (x := ((i' + 1 : Nat) : Int)) (by rw [wrap64 (by omega) (by omega)]; omega) ?_
  exact ⟨i' + 1, ⟨by omega, by omega, hU⟩, by omega, ⟨⟨rfl, rfl, rfl, rfl, trivial⟩, ⟨rfl, trivial⟩, rfl, rfl⟩⟩
 rw [if_neg (by simp only [Bool.and_eq_true, hl]; simp)] at hU
 rotate_left
 rw [if_neg (by simp; omega)] at hU
 obtain rfl := hU
 rotate_left
 obtain rfl := hU
 rotate_left
 all_goals
  generalize hV : scanDown (fun x => lt d1[a]! x) d1 i' j = V at *
  refine lIn (fun j' : Nat => j' ≤ j ∧ 0 ≤ j' ∧ scanDown (fun x => lt d1[a]! x) d1 i' j' = V) (fun j' => ⟨[(1, .val (.int .i64 a)), (4, .loc 0 r1 0), (9, .val (.int .i64 i')), (10, .val (.int .i64 j'))], fblk r1 lf sf lb sb, 1, μ, J d1⟩) (fun j' => j')
   j ⟨by omega, by omega, hV⟩ (fun _ => ⟨rfl, rfl⟩) ⟨⟨rfl, rfl, rfl, rfl, trivial⟩, ⟨rfl, trivial⟩, rfl, rfl⟩ ?_
  clear hV
  rintro j' ⟨g1, g2, hV⟩
  refine ifd (fun hij2 => ?_) (fun hij2 => ?_)
  obtain ⟨k, rfl⟩ : ∃ k, j' = k + 1 := ⟨j' - 1, by omega⟩
  rw [scanDown] at hV
  refine cOw (H.less hle hs (i := a) (j := k + 1) (by omega) (by omega)) fun v μ' h' hle' hap hR => ?_
  obtain ⟨rfl, e2, rfl⟩ := hR
  obtain rfl := e2.symm
  clear hle' hap
  refine iIn (fun hl => ?_) (fun hl => ?_)
  ·rw [if_pos (by simp only [Bool.and_eq_true, decide_eq_true_eq]; exact ⟨by omega, hl⟩)] at hV
   refine nEq (x := ((k : Nat) : Int)) (by rw [wrap64 (by omega) (by omega)]; omega) ?_
   exact ⟨k, ⟨by omega, by omega, hV⟩, by omega, ⟨⟨rfl, rfl, rfl, rfl, trivial⟩, ⟨rfl, trivial⟩, rfl, rfl⟩⟩
  rw [if_neg (by simp only [Bool.and_eq_true, hl]; simp)] at hV
  obtain rfl := hV
  generalize k + 1 = j' at *
  rotate_left
  replace hV : j' = V := by
   cases j' with
   | zero => exact hV
   | succ k => rwa [scanDown, if_neg (by simp; omega)] at hV
  obtain rfl := hV
  rotate_left
 all_goals
  refine ifd (fun hgt => ?_) (fun hgt => ?_)
  ·rw [if_pos (by omega)] at hR
   subst hR
   exact rPl ⟨rfl, rfl, rfl, hs⟩
  ·rw [if_neg (by omega)] at hR
   refine cOw (H.swap hle hs (i := i') (j := j') (by omega) (by omega)) fun v μ' h' hle' hap hR => ?_
   obtain ⟨rfl, e2, rfl⟩ := hR
   obtain rfl := e2.symm
   clear hle' hap
   refine nEq (x := ((i' + 1 : Nat) : Int)) (by rw [wrap64 (by omega) (by omega)]; omega) ?_
   refine nEq (x := ((j' - 1 : Nat) : Int)) (by rw [wrap64 (by omega) (by omega)]; omega) ?_
   exact ⟨(i' + 1, j' - 1, swp d1 i' j'), ⟨by dsimp only; omega, by dsimp only; omega, by dsimp only; omega, H.sw hs (by omega) (by omega), hR⟩, by dsimp only; omega, ⟨⟨rfl, rfl, rfl, rfl, trivial⟩, ⟨rfl, trivial⟩, rfl, rfl⟩⟩
set_option maxHeartbeats 4000000 in
theorem partitionF_spec (H : SortBy lf sf lb sb n lt μ0 J V) {a b pivot : Nat} (hle : μ0.Le μ) (hV : V d) (hap : a ≤ pivot) (hpb : pivot < b) (hb : b ≤ n) :
  SpecH Try.prog 158 [fdata lf sf lb sb, .int .i64 a, .int .i64 b, .int .i64 pivot] μ (J d) fun v μ' h' => (∃ ap, v = .tuple #[.int .i64 (partition lt d a b pivot).1, .bool ap]) ∧ μ' = μ ∧ h' = J (partition lt d a b pivot).2.2 ∧ V (partition lt d a b pivot).2.2 := by
 have hn := H.max
 refine SpecH.mk [] Try.func158 (by kernel_rfl) ?_
 intro r1
 rw [partition_fst, partition_arr]
 generalize hR : partLoop lt a (a + 1) (b - 1) (swp d a pivot) = R
 refine cOw (H.swap hle hV (i := a) (j := pivot) (by omega) (by omega)) fun v μ' h' hle' hap hR => ?_
 obtain ⟨rfl, e2, rfl⟩ := hR
 obtain rfl := e2.symm
 clear hle' hap
 refine nEq (x := ((a + 1 : Nat) : Int)) (by rw [wrap64 (by omega) (by omega)]; omega) ?_
 refine nEq (x := ((b - 1 : Nat) : Int)) (by rw [wrap64 (by omega) (by omega)]; omega) ?_
 have hs : V (swp d a pivot) := H.sw hV (by omega) (by omega)
 generalize swp d a pivot = d1 at *
 obtain ⟨i, hi⟩ : ∃ i, i = a + 1 := ⟨_, rfl⟩
 obtain ⟨j, hj⟩ : ∃ j, j = b - 1 := ⟨_, rfl⟩
 have hai : a < i := by omega
 have hij0 : i ≤ j + 2 := by omega
 have hjb : j < b := by omega
 rw [← hi, ← hj] at hR ⊢
 clear hi hj
 rw [partLoop_eq] at hR
 generalize hU : scanUp (fun x => lt x d1[a]!) d1 j i = U at *
 refine lIn (fun i' : Nat => i ≤ i' ∧ i' ≤ j + 2 ∧ scanUp (fun x => lt x d1[a]!) d1 j i' = U) (fun i' => ⟨[(1, .val (.int .i64 a)), (4, .loc 0 r1 0), (10, .val (.int .i64 i')), (11, .val (.int .i64 j))], fblk r1 lf sf lb sb, 1, μ, J d1⟩) (fun i' => j + 1 - i')
  i ⟨by omega, by omega, hU⟩ (fun _ => ⟨rfl, rfl⟩) ⟨⟨rfl, rfl, rfl, rfl, trivial⟩, ⟨rfl, trivial⟩, rfl, rfl⟩ ?_
 clear hU
 rintro i' ⟨h1, h2, hU⟩
 rw [scanUp] at hU
 refine ifd (fun hij => ?_) (fun hij => ?_)
 refine cOw (H.less hle hs (i := i') (j := a) (by omega) (by omega)) fun v μ' h' hle' hap hR => ?_
 obtain ⟨rfl, e2, rfl⟩ := hR
 obtain rfl := e2.symm
 clear hle' hap
 refine iIn (fun hl => ?_) (fun hl => ?_)
 ·rw [if_pos (by simp only [Bool.and_eq_true, decide_eq_true_eq]; exact ⟨by omega, hl⟩)] at hU
  refine nEq (x := ((i' + 1 : Nat) : Int)) (by rw [wrap64 (by omega) (by omega)]; omega) ?_
  exact ⟨i' + 1, ⟨by omega, by omega, hU⟩, by omega, ⟨⟨rfl, rfl, rfl, rfl, trivial⟩, ⟨rfl, trivial⟩, rfl, rfl⟩⟩
 rw [if_neg (by simp only [Bool.and_eq_true, hl]; simp)] at hU
 rotate_left
 rw [if_neg (by simp; omega)] at hU
 obtain rfl := hU
 rotate_left
 obtain rfl := hU
 rotate_left
 all_goals
  generalize hV : scanDown (fun x => !lt x d1[a]!) d1 i' j = V at *
  refine lIn (fun j' : Nat => j' ≤ j ∧ 0 ≤ j' ∧ scanDown (fun x => !lt x d1[a]!) d1 i' j' = V) (fun j' => ⟨[(1, .val (.int .i64 a)), (4, .loc 0 r1 0), (10, .val (.int .i64 i')), (11, .val (.int .i64 j'))], fblk r1 lf sf lb sb, 1, μ, J d1⟩) (fun j' => j')
   j ⟨by omega, by omega, hV⟩ (fun _ => ⟨rfl, rfl⟩) ⟨⟨rfl, rfl, rfl, rfl, trivial⟩, ⟨rfl, trivial⟩, rfl, rfl⟩ ?_
  clear hV
  rintro j' ⟨g1, g2, hV⟩
  refine ifd (fun hij2 => ?_) (fun hij2 => ?_)
  obtain ⟨k, rfl⟩ : ∃ k, j' = k + 1 := ⟨j' - 1, by omega⟩
  rw [scanDown] at hV
  refine cOw (H.less hle hs (i := k + 1) (j := a) (by omega) (by omega)) fun v μ' h' hle' hap hR => ?_
  obtain ⟨rfl, e2, rfl⟩ := hR
  obtain rfl := e2.symm
  clear hle' hap
  refine iIn (fun hl => ?_) (fun hl => ?_)
  ·rw [if_pos (by simp only [Bool.and_eq_true, decide_eq_true_eq]; exact ⟨by omega, hl⟩)] at hV
   refine nEq (x := ((k : Nat) : Int)) (by rw [wrap64 (by omega) (by omega)]; omega) ?_
   exact ⟨k, ⟨by omega, by omega, hV⟩, by omega, ⟨⟨rfl, rfl, rfl, rfl, trivial⟩, ⟨rfl, trivial⟩, rfl, rfl⟩⟩
  rw [if_neg (by simp only [Bool.and_eq_true, hl]; simp)] at hV
  obtain rfl := hV
  generalize k + 1 = j' at *
  rotate_left
  replace hV : j' = V := by
   cases j' with
   | zero => exact hV
   | succ k => rwa [scanDown, if_neg (by simp; omega)] at hV
  obtain rfl := hV
  rotate_left
 all_goals
  refine ifd (fun hgt => ?_) (fun hgt => ?_)
  ·rw [if_pos (by omega)] at hR
   subst hR
   refine cOw (H.swap hle hs (i := j') (j := a) (by omega) (by omega)) fun v μ' h' hle' hap hR => ?_
   obtain ⟨rfl, e2, rfl⟩ := hR
   obtain rfl := e2.symm
   clear hle' hap
   exact rPl ⟨⟨_, rfl⟩, rfl, rfl, H.sw hs (by omega) (by omega)⟩
  ·rw [if_neg (by omega)] at hR
   refine cOw (H.swap hle hs (i := i') (j := j') (by omega) (by omega)) fun v μ' h' hle' hap hR => ?_
   obtain ⟨rfl, e2, rfl⟩ := hR
   obtain rfl := e2.symm
   clear hle' hap
   refine nEq (x := ((i' + 1 : Nat) : Int)) (by rw [wrap64 (by omega) (by omega)]; omega) ?_
   refine nEq (x := ((j' - 1 : Nat) : Int)) (by rw [wrap64 (by omega) (by omega)]; omega) ?_
   refine lIn (fun p : Nat × Nat × Array α => a < p.1 ∧ p.1 ≤ p.2.1 + 2 ∧ p.2.1 < b ∧ V p.2.2 ∧ partLoop lt a p.1 p.2.1 p.2.2 = R)
    (fun (i, j, d) => ⟨[(1, .val (.int .i64 a)), (4, .loc 0 r1 0), (10, .val (.int .i64 i)), (11, .val (.int .i64 j))], fblk r1 lf sf lb sb, 1, μ, J d⟩) (fun p => p.2.1 + 1 - p.1)
    (i' + 1, j' - 1, swp d1 i' j') ⟨by dsimp only; omega, by dsimp only; omega, by dsimp only; omega, H.sw hs (by omega) (by omega), hR⟩ (fun (_, _, _) => ⟨rfl, rfl⟩) ⟨⟨rfl, rfl, rfl, rfl, trivial⟩, ⟨rfl, trivial⟩, rfl, rfl⟩ ?_
   clear hR hgt hs hai hij0 hjb h1 h2 g1 g2
   rintro ⟨i, j, d1⟩ ⟨hai, hij0, hjb, hs, hR⟩
   dsimp only at hai hij0 hjb hs hR
   rw [partLoop_eq] at hR
   generalize hU : scanUp (fun x => lt x d1[a]!) d1 j i = U at *
   refine lIn (fun i' : Nat => i ≤ i' ∧ i' ≤ j + 2 ∧ scanUp (fun x => lt x d1[a]!) d1 j i' = U) (fun i' => ⟨[(1, .val (.int .i64 a)), (4, .loc 0 r1 0), (10, .val (.int .i64 i')), (11, .val (.int .i64 j))], fblk r1 lf sf lb sb, 1, μ, J d1⟩) (fun i' => j + 1 - i')
    i ⟨by omega, by omega, hU⟩ (fun _ => ⟨rfl, rfl⟩) ⟨⟨rfl, rfl, rfl, rfl, trivial⟩, ⟨rfl, trivial⟩, rfl, rfl⟩ ?_
   clear hU
   rintro i' ⟨h1, h2, hU⟩
   rw [scanUp] at hU
   refine ifd (fun hij => ?_) (fun hij => ?_)
   refine cOw (H.less hle hs (i := i') (j := a) (by omega) (by omega)) fun v μ' h' hle' hap hR => ?_
   obtain ⟨rfl, e2, rfl⟩ := hR
   obtain rfl := e2.symm
   clear hle' hap
   refine iIn (fun hl => ?_) (fun hl => ?_)
   ·rw [if_pos (by simp only [Bool.and_eq_true, decide_eq_true_eq]; exact ⟨by omega, hl⟩)] at hU
    refine nEq (x := ((i' + 1 : Nat) : Int)) (by rw [wrap64 (by omega) (by omega)]; omega) ?_
    exact ⟨i' + 1, ⟨by omega, by omega, hU⟩, by omega, ⟨⟨rfl, rfl, rfl, rfl, trivial⟩, ⟨rfl, trivial⟩, rfl, rfl⟩⟩
   rw [if_neg (by simp only [Bool.and_eq_true, hl]; simp)] at hU
   rotate_left
   rw [if_neg (by simp; omega)] at hU
   obtain rfl := hU
   rotate_left
   obtain rfl := hU
   rotate_left
   all_goals
    generalize hV : scanDown (fun x => !lt x d1[a]!) d1 i' j = V at *
    refine lIn (fun j' : Nat => j' ≤ j ∧ 0 ≤ j' ∧ scanDown (fun x => !lt x d1[a]!) d1 i' j' = V) (fun j' => ⟨[(1, .val (.int .i64 a)), (4, .loc 0 r1 0), (10, .val (.int .i64 i')), (11, .val (.int .i64 j'))], fblk r1 lf sf lb sb, 1, μ, J d1⟩) (fun j' => j')
     j ⟨by omega, by omega, hV⟩ (fun _ => ⟨rfl, rfl⟩) ⟨⟨rfl, rfl, rfl, rfl, trivial⟩, ⟨rfl, trivial⟩, rfl, rfl⟩ ?_
    clear hV
    rintro j' ⟨g1, g2, hV⟩
    refine ifd (fun hij2 => ?_) (fun hij2 => ?_)
    obtain ⟨k, rfl⟩ : ∃ k, j' = k + 1 := ⟨j' - 1, by omega⟩
    rw [scanDown] at hV
    refine cOw (H.less hle hs (i := k + 1) (j := a) (by omega) (by omega)) fun v μ' h' hle' hap hR => ?_
    obtain ⟨rfl, e2, rfl⟩ := hR
    obtain rfl := e2.symm
    clear hle' hap
    refine iIn (fun hl => ?_) (fun hl => ?_)
    ·rw [if_pos (by simp only [Bool.and_eq_true, decide_eq_true_eq]; exact ⟨by omega, hl⟩)] at hV
     refine nEq (x := ((k : Nat) : Int)) (by rw [wrap64 (by omega) (by omega)]; omega) ?_
     exact ⟨k, ⟨by omega, by omega, hV⟩, by omega, ⟨⟨rfl, rfl, rfl, rfl, trivial⟩, ⟨rfl, trivial⟩, rfl, rfl⟩⟩
    rw [if_neg (by simp only [Bool.and_eq_true, hl]; simp)] at hV
    obtain rfl := hV
    generalize k + 1 = j' at *
    rotate_left
    replace hV : j' = V := by
     cases j' with
     | zero => exact hV
     | succ k => rwa [scanDown, if_neg (by simp; omega)] at hV
    obtain rfl := hV
    rotate_left
   all_goals
    refine ifd (fun hgt => ?_) (fun hgt => ?_)
    ·rw [if_pos (by omega)] at hR
     subst hR
     refine cOw (H.swap hle hs (i := j') (j := a) (by omega) (by omega)) fun v μ' h' hle' hap hR => ?_
     obtain ⟨rfl, e2, rfl⟩ := hR
     obtain rfl := e2.symm
     clear hle' hap
     exact rPl ⟨⟨_, rfl⟩, rfl, rfl, H.sw hs (by omega) (by omega)⟩
    ·rw [if_neg (by omega)] at hR
     refine cOw (H.swap hle hs (i := i') (j := j') (by omega) (by omega)) fun v μ' h' hle' hap hR => ?_
     obtain ⟨rfl, e2, rfl⟩ := hR
     obtain rfl := e2.symm
     clear hle' hap
     refine nEq (x := ((i' + 1 : Nat) : Int)) (by rw [wrap64 (by omega) (by omega)]; omega) ?_
     refine nEq (x := ((j' - 1 : Nat) : Int)) (by rw [wrap64 (by omega) (by omega)]; omega) ?_
     exact ⟨(i' + 1, j' - 1, swp d1 i' j'), ⟨by dsimp only; omega, by dsimp only; omega, by dsimp only; omega, H.sw hs (by omega) (by omega), hR⟩, by dsimp only; omega, ⟨⟨rfl, rfl, rfl, rfl, trivial⟩, ⟨rfl, trivial⟩, rfl, rfl⟩⟩
end
end Go.Vx
namespace Go.Vx
open Go.Proofs Classical
open Go.Sort
section
variable {α : Type} [Inhabited α] {lf sf : FuncId} {lb sb : List Value} {n : Nat} {lt : α → α → Bool} {μ0 : Mem} {J : Array α → Mem} {V : Array α → Prop} {μ : Mem} {d : Array α}
set_option maxHeartbeats 8000000 in
theorem partialInsertionSortF_spec (H : SortBy lf sf lb sb n lt μ0 J V) {a b : Nat} (hle : μ0.Le μ) (hV : V d) (ha : a < b) (hb : b ≤ n) :
  SpecH Try.prog 156 [fdata lf sf lb sb, .int .i64 a, .int .i64 b] μ (J d) fun v μ' h' => v = .bool (partialInsertionSort lt d a b).2 ∧ μ' = μ ∧ h' = J (partialInsertionSort lt d a b).1 ∧ V (partialInsertionSort lt d a b).1 := by
 have hn := H.max
 refine SpecH.mk [] Try.func156 (by kernel_rfl) ?_
 intro r1
 rw [partialInsertionSort]
 generalize hR : partialIns lt a b 5 (a + 1) d = R
 refine nEq (x := ((a + 1 : Nat) : Int)) (by rw [wrap64 (by omega) (by omega)]; omega) ?_
 refine lIn (fun p : Nat × Nat × Array α => p.1 ≤ 5 ∧ a < p.2.1 ∧ p.2.1 ≤ b ∧ V p.2.2 ∧ partialIns lt a b p.1 p.2.1 p.2.2 = R)
  (fun (t, i, d) => ⟨[(1, .val (.int .i64 a)), (2, .val (.int .i64 b)), (3, .loc 0 r1 0), (7, .val (.int .i64 i)), (8, .val (.int .i64 (5 - (t : Int))))], fblk r1 lf sf lb sb, 1, μ, J d⟩) (fun p => p.1)
  (5, a + 1, d) ⟨by dsimp only; omega, by dsimp only; omega, by dsimp only; omega, hV, hR⟩ (fun (_, _, _) => ⟨rfl, rfl⟩) ⟨⟨rfl, rfl, rfl, rfl, rfl, trivial⟩, ⟨rfl, trivial⟩, rfl, rfl⟩ ?_
 clear hR
 rintro ⟨t, i, d1⟩ ⟨ht, hai, hib, hs, hR⟩
 dsimp only at ht hai hib hs hR
 refine ifd (fun h5 => ?_) (fun h5 => ?_)
 rotate_left
 ·obtain rfl : t = 0 := by omega
  rw [partialIns] at hR
  subst hR
  exact rPl ⟨rfl, rfl, rfl, hs⟩
 obtain ⟨t, rfl⟩ : ∃ k, t = k + 1 := ⟨t - 1, by omega⟩
 rw [partialIns_succ] at hR
 generalize hS : scanSorted lt d1 b i = S at *
 refine lIn (fun i' : Nat => i ≤ i' ∧ i' ≤ b ∧ scanSorted lt d1 b i' = S) (fun i' => ⟨[(1, .val (.int .i64 a)), (2, .val (.int .i64 b)), (3, .loc 0 r1 0), (7, .val (.int .i64 i')), (8, .val (.int .i64 (5 - ((t + 1 : Nat) : Int))))], fblk r1 lf sf lb sb, 1, μ, J d1⟩) (fun i' => b - i')
  i ⟨by omega, by omega, hS⟩ (fun _ => ⟨rfl, rfl⟩) ⟨⟨rfl, rfl, rfl, rfl, rfl, trivial⟩, ⟨rfl, trivial⟩, rfl, rfl⟩ ?_
 clear hS
 rintro i' ⟨h1, h2, hS⟩
 rw [scanSorted] at hS
 refine ifd (fun hlt => ?_) (fun hlt => ?_)
 rotate_left
 ·rw [if_neg (by simp; omega)] at hS
  obtain rfl := hS
  rw [if_pos (by omega)] at hR
  subst hR
  refine ifd (fun _ => ?_) (fun h => absurd (by omega) h)
  exact rPl ⟨rfl, rfl, rfl, hs⟩
 refine nEq (x := ((i' - 1 : Nat) : Int)) (by rw [wrap64 (by omega) (by omega)]; omega) ?_
 refine cOw (H.less hle hs (i := i') (j := i' - 1) (by omega) (by omega)) fun v μ' h' hle' hap hR => ?_
 obtain ⟨rfl, e2, rfl⟩ := hR
 obtain rfl := e2.symm
 clear hle' hap
 refine iIn (fun hl => ?_) (fun hl => ?_)
 ·rw [if_pos (by simp only [Bool.and_eq_true, decide_eq_true_eq]; exact ⟨by omega, hl⟩)] at hS
  refine nEq (x := ((i' + 1 : Nat) : Int)) (by rw [wrap64 (by omega) (by omega)]; omega) ?_
  exact ⟨i' + 1, ⟨by omega, by omega, hS⟩, by omega, ⟨⟨rfl, rfl, rfl, rfl, rfl, trivial⟩, ⟨rfl, trivial⟩, rfl, rfl⟩⟩
 rw [if_neg (by simp only [Bool.and_eq_true, hl]; simp)] at hS
 obtain rfl := hS
 refine ifd (fun h => absurd h (by omega)) (fun _ => ?_)
 rw [if_neg (by omega)] at hR
 refine nEq (x := ((b - a : Nat) : Int)) (by rw [wrap64 (by omega) (by omega)]; omega) ?_
 refine ifd (fun h50 => ?_) (fun h50 => ?_)
 ·rw [if_pos (by omega)] at hR
  subst hR
  exact rPl ⟨rfl, rfl, rfl, hs⟩
 rw [if_neg (by omega)] at hR
 refine nEq (x := ((i' - 1 : Nat) : Int)) (by rw [wrap64 (by omega) (by omega)]; omega) ?_
 refine cOw (H.swap hle hs (i := i') (j := i' - 1) (by omega) (by omega)) fun v μ' h' hle' hap hR => ?_
 obtain ⟨rfl, e2, rfl⟩ := hR
 obtain rfl := e2.symm
 clear hle' hap
 have hs2 : V (swp d1 i' (i' - 1)) := H.sw hs (by omega) (by omega)
 generalize swp d1 i' (i' - 1) = d2 at *
 refine nEq (x := ((i' - a : Nat) : Int)) (by rw [wrap64 (by omega) (by omega)]; omega) ?_
 unfold fixDown at hR
 refine ifd (fun hd2 => ?_) (fun hd2 => ?_)
 ·rw [if_pos (by omega)] at hR
  refine nEq (x := ((i' - 1 : Nat) : Int)) (by rw [wrap64 (by omega) (by omega)]; omega) ?_
  generalize hD : shiftDown lt (i' - 1) d2 = D2 at *
  refine lIn (fun p : Nat × Array α => p.1 ≤ i' - 1 ∧ V p.2 ∧ shiftDown lt p.1 p.2 = D2) (fun (j, d) => ⟨[(1, .val (.int .i64 a)), (2, .val (.int .i64 b)), (3, .loc 0 r1 0), (7, .val (.int .i64 i')), (8, .val (.int .i64 (5 - ((t + 1 : Nat) : Int)))), (9, .val (.int .i64 j))], fblk r1 lf sf lb sb, 1, μ, J d⟩) (fun p => p.1)
   (i' - 1, d2) ⟨by dsimp only; omega, hs2, hD⟩ (fun (_, _) => ⟨rfl, rfl⟩) ⟨⟨rfl, rfl, rfl, rfl, rfl, rfl, trivial⟩, ⟨rfl, trivial⟩, rfl, rfl⟩ ?_
  clear hD
  rintro ⟨j, d3⟩ ⟨hj, hs3, hD⟩
  dsimp only at hj hs3 hD
  refine ifd (fun hj1 => ?_) (fun hj1 => ?_)
  ·obtain ⟨k, rfl⟩ : ∃ k, j = k + 1 := ⟨j - 1, by omega⟩
   rw [shiftDown] at hD
   refine nEq (x := ((k : Nat) : Int)) (by rw [wrap64 (by omega) (by omega)]; omega) ?_
   refine cOw (H.less hle hs3 (i := k + 1) (j := k) (by omega) (by omega)) fun v μ' h' hle' hap hR => ?_
   obtain ⟨rfl, e2, rfl⟩ := hR
   obtain rfl := e2.symm
   clear hle' hap
   refine iIn (fun hl2 => ?_) (fun hl2 => ?_)
   ·rw [if_pos hl2] at hD
    obtain rfl := hD
    refine nEq (x := ((b - i' : Nat) : Int)) (by rw [wrap64 (by omega) (by omega)]; omega) ?_
    unfold fixUp at hR
    refine ifd (fun hu2 => ?_) (fun hu2 => ?_)
    ·rw [if_pos (by omega)] at hR
     refine nEq (x := ((i' + 1 : Nat) : Int)) (by rw [wrap64 (by omega) (by omega)]; omega) ?_
     generalize hE : shiftUp lt b (i' + 1) d3 = D4 at *
     refine lIn (fun p : Nat × Array α => i' + 1 ≤ p.1 ∧ p.1 ≤ b + 1 ∧ V p.2 ∧ shiftUp lt b p.1 p.2 = D4) (fun (j, d) => ⟨[(1, .val (.int .i64 a)), (2, .val (.int .i64 b)), (3, .loc 0 r1 0), (7, .val (.int .i64 i')), (8, .val (.int .i64 (5 - ((t + 1 : Nat) : Int)))), (10, .val (.int .i64 j))], fblk r1 lf sf lb sb, 1, μ, J d⟩) (fun p => b - p.1)
      (i' + 1, d3) ⟨by dsimp only; omega, by dsimp only; omega, hs3, hE⟩ (fun (_, _) => ⟨rfl, rfl⟩) ⟨⟨rfl, rfl, rfl, rfl, rfl, rfl, trivial⟩, ⟨rfl, trivial⟩, rfl, rfl⟩ ?_
     clear hE
     rintro ⟨j2, d5⟩ ⟨hj2, hjb2, hs5, hE⟩
     dsimp only at hj2 hjb2 hs5 hE
     rw [shiftUp] at hE
     refine ifd (fun hj1 => ?_) (fun hj1 => ?_)
     ·rw [if_pos (by omega)] at hE
      refine nEq (x := ((j2 - 1 : Nat) : Int)) (by rw [wrap64 (by omega) (by omega)]; omega) ?_
      refine cOw (H.less hle hs5 (i := j2) (j := j2 - 1) (by omega) (by omega)) fun v μ' h' hle' hap hR => ?_
      obtain ⟨rfl, e2, rfl⟩ := hR
      obtain rfl := e2.symm
      clear hle' hap
      refine iIn (fun hl3 => ?_) (fun hl3 => ?_)
      ·rw [if_pos hl3] at hE
       obtain rfl := hE
       refine nEq (x := 5 - (t : Int)) (by rw [wrap64 (by omega) (by omega)]; omega) ?_
       exact ⟨(t, i', d5), ⟨by dsimp only; omega, by dsimp only; omega, by dsimp only; omega, hs5, hR⟩, by dsimp only; omega, ⟨⟨rfl, rfl, rfl, rfl, rfl, trivial⟩, ⟨rfl, trivial⟩, rfl, rfl⟩⟩
      ·rw [if_neg (by simp only [hl3]; simp)] at hE
       refine nEq (x := ((j2 - 1 : Nat) : Int)) (by rw [wrap64 (by omega) (by omega)]; omega) ?_
       refine cOw (H.swap hle hs5 (i := j2) (j := j2 - 1) (by omega) (by omega)) fun v μ' h' hle' hap hR => ?_
       obtain ⟨rfl, e2, rfl⟩ := hR
       obtain rfl := e2.symm
       clear hle' hap
       refine nEq (x := ((j2 + 1 : Nat) : Int)) (by rw [wrap64 (by omega) (by omega)]; omega) ?_
       exact ⟨(j2 + 1, swp d5 j2 (j2 - 1)), ⟨by dsimp only; omega, by dsimp only; omega, H.sw hs5 (by omega) (by omega), hE⟩, by dsimp only; omega, ⟨⟨rfl, rfl, rfl, rfl, rfl, rfl, trivial⟩, ⟨rfl, trivial⟩, rfl, rfl⟩⟩
     ·rw [if_neg (by omega)] at hE
      obtain rfl := hE
      refine nEq (x := 5 - (t : Int)) (by rw [wrap64 (by omega) (by omega)]; omega) ?_
      exact ⟨(t, i', d5), ⟨by dsimp only; omega, by dsimp only; omega, by dsimp only; omega, hs5, hR⟩, by dsimp only; omega, ⟨⟨rfl, rfl, rfl, rfl, rfl, trivial⟩, ⟨rfl, trivial⟩, rfl, rfl⟩⟩
    ·rw [if_neg (by omega)] at hR
     refine nEq (x := 5 - (t : Int)) (by rw [wrap64 (by omega) (by omega)]; omega) ?_
     exact ⟨(t, i', d3), ⟨by dsimp only; omega, by dsimp only; omega, by dsimp only; omega, hs3, hR⟩, by dsimp only; omega, ⟨⟨rfl, rfl, rfl, rfl, rfl, trivial⟩, ⟨rfl, trivial⟩, rfl, rfl⟩⟩
   ·rw [if_neg (by simp only [hl2]; simp)] at hD
    refine nEq (x := ((k : Nat) : Int)) (by rw [wrap64 (by omega) (by omega)]; omega) ?_
    refine cOw (H.swap hle hs3 (i := k + 1) (j := k) (by omega) (by omega)) fun v μ' h' hle' hap hR => ?_
    obtain ⟨rfl, e2, rfl⟩ := hR
    obtain rfl := e2.symm
    clear hle' hap
    refine nEq (x := ((k : Nat) : Int)) (by rw [wrap64 (by omega) (by omega)]; omega) ?_
    exact ⟨(k, swp d3 (k + 1) k), ⟨by dsimp only; omega, H.sw hs3 (by omega) (by omega), hD⟩, by dsimp only; omega, ⟨⟨rfl, rfl, rfl, rfl, rfl, rfl, trivial⟩, ⟨rfl, trivial⟩, rfl, rfl⟩⟩
  ·obtain rfl : j = 0 := by omega
   have hD : d3 = D2 := hD
   obtain rfl := hD
   refine nEq (x := ((b - i' : Nat) : Int)) (by rw [wrap64 (by omega) (by omega)]; omega) ?_
   unfold fixUp at hR
   refine ifd (fun hu2 => ?_) (fun hu2 => ?_)
   ·rw [if_pos (by omega)] at hR
    refine nEq (x := ((i' + 1 : Nat) : Int)) (by rw [wrap64 (by omega) (by omega)]; omega) ?_
    generalize hE : shiftUp lt b (i' + 1) d3 = D4 at *
    refine lIn (fun p : Nat × Array α => i' + 1 ≤ p.1 ∧ p.1 ≤ b + 1 ∧ V p.2 ∧ shiftUp lt b p.1 p.2 = D4) (fun (j, d) => ⟨[(1, .val (.int .i64 a)), (2, .val (.int .i64 b)), (3, .loc 0 r1 0), (7, .val (.int .i64 i')), (8, .val (.int .i64 (5 - ((t + 1 : Nat) : Int)))), (10, .val (.int .i64 j))], fblk r1 lf sf lb sb, 1, μ, J d⟩) (fun p => b - p.1)
     (i' + 1, d3) ⟨by dsimp only; omega, by dsimp only; omega, hs3, hE⟩ (fun (_, _) => ⟨rfl, rfl⟩) ⟨⟨rfl, rfl, rfl, rfl, rfl, rfl, trivial⟩, ⟨rfl, trivial⟩, rfl, rfl⟩ ?_
    clear hE
    rintro ⟨j2, d5⟩ ⟨hj2, hjb2, hs5, hE⟩
    dsimp only at hj2 hjb2 hs5 hE
    rw [shiftUp] at hE
    refine ifd (fun hj1 => ?_) (fun hj1 => ?_)
    ·rw [if_pos (by omega)] at hE
     refine nEq (x := ((j2 - 1 : Nat) : Int)) (by rw [wrap64 (by omega) (by omega)]; omega) ?_
     refine cOw (H.less hle hs5 (i := j2) (j := j2 - 1) (by omega) (by omega)) fun v μ' h' hle' hap hR => ?_
     obtain ⟨rfl, e2, rfl⟩ := hR
     obtain rfl := e2.symm
     clear hle' hap
     refine iIn (fun hl3 => ?_) (fun hl3 => ?_)
     ·rw [if_pos hl3] at hE
      obtain rfl := hE
      refine nEq (x := 5 - (t : Int)) (by rw [wrap64 (by omega) (by omega)]; omega) ?_
      exact ⟨(t, i', d5), ⟨by dsimp only; omega, by dsimp only; omega, by dsimp only; omega, hs5, hR⟩, by dsimp only; omega, ⟨⟨rfl, rfl, rfl, rfl, rfl, trivial⟩, ⟨rfl, trivial⟩, rfl, rfl⟩⟩
     ·rw [if_neg (by simp only [hl3]; simp)] at hE
      refine nEq (x := ((j2 - 1 : Nat) : Int)) (by rw [wrap64 (by omega) (by omega)]; omega) ?_
      refine cOw (H.swap hle hs5 (i := j2) (j := j2 - 1) (by omega) (by omega)) fun v μ' h' hle' hap hR => ?_
      obtain ⟨rfl, e2, rfl⟩ := hR
      obtain rfl := e2.symm
      clear hle' hap
      refine nEq (x := ((j2 + 1 : Nat) : Int)) (by rw [wrap64 (by omega) (by omega)]; omega) ?_
      exact ⟨(j2 + 1, swp d5 j2 (j2 - 1)), ⟨by dsimp only; omega, by dsimp only; omega, H.sw hs5 (by omega) (by omega), hE⟩, by dsimp only; omega, ⟨⟨rfl, rfl, rfl, rfl, rfl, rfl, trivial⟩, ⟨rfl, trivial⟩, rfl, rfl⟩⟩
    ·rw [if_neg (by omega)] at hE
     obtain rfl := hE
     refine nEq (x := 5 - (t : Int)) (by rw [wrap64 (by omega) (by omega)]; omega) ?_
     exact ⟨(t, i', d5), ⟨by dsimp only; omega, by dsimp only; omega, by dsimp only; omega, hs5, hR⟩, by dsimp only; omega, ⟨⟨rfl, rfl, rfl, rfl, rfl, trivial⟩, ⟨rfl, trivial⟩, rfl, rfl⟩⟩
   ·rw [if_neg (by omega)] at hR
    refine nEq (x := 5 - (t : Int)) (by rw [wrap64 (by omega) (by omega)]; omega) ?_
    exact ⟨(t, i', d3), ⟨by dsimp only; omega, by dsimp only; omega, by dsimp only; omega, hs3, hR⟩, by dsimp only; omega, ⟨⟨rfl, rfl, rfl, rfl, rfl, trivial⟩, ⟨rfl, trivial⟩, rfl, rfl⟩⟩
 ·rw [if_neg (by omega)] at hR
  refine nEq (x := ((b - i' : Nat) : Int)) (by rw [wrap64 (by omega) (by omega)]; omega) ?_
  unfold fixUp at hR
  refine ifd (fun hu2 => ?_) (fun hu2 => ?_)
  ·rw [if_pos (by omega)] at hR
   refine nEq (x := ((i' + 1 : Nat) : Int)) (by rw [wrap64 (by omega) (by omega)]; omega) ?_
   generalize hE : shiftUp lt b (i' + 1) d2 = D4 at *
   refine lIn (fun p : Nat × Array α => i' + 1 ≤ p.1 ∧ p.1 ≤ b + 1 ∧ V p.2 ∧ shiftUp lt b p.1 p.2 = D4) (fun (j, d) => ⟨[(1, .val (.int .i64 a)), (2, .val (.int .i64 b)), (3, .loc 0 r1 0), (7, .val (.int .i64 i')), (8, .val (.int .i64 (5 - ((t + 1 : Nat) : Int)))), (10, .val (.int .i64 j))], fblk r1 lf sf lb sb, 1, μ, J d⟩) (fun p => b - p.1)
    (i' + 1, d2) ⟨by dsimp only; omega, by dsimp only; omega, hs2, hE⟩ (fun (_, _) => ⟨rfl, rfl⟩) ⟨⟨rfl, rfl, rfl, rfl, rfl, rfl, trivial⟩, ⟨rfl, trivial⟩, rfl, rfl⟩ ?_
   clear hE
   rintro ⟨j2, d5⟩ ⟨hj2, hjb2, hs5, hE⟩
   dsimp only at hj2 hjb2 hs5 hE
   rw [shiftUp] at hE
   refine ifd (fun hj1 => ?_) (fun hj1 => ?_)
   ·rw [if_pos (by omega)] at hE
    refine nEq (x := ((j2 - 1 : Nat) : Int)) (by rw [wrap64 (by omega) (by omega)]; omega) ?_
    refine cOw (H.less hle hs5 (i := j2) (j := j2 - 1) (by omega) (by omega)) fun v μ' h' hle' hap hR => ?_
    obtain ⟨rfl, e2, rfl⟩ := hR
    obtain rfl := e2.symm
    clear hle' hap
    refine iIn (fun hl3 => ?_) (fun hl3 => ?_)
    ·rw [if_pos hl3] at hE
     obtain rfl := hE
     refine nEq (x := 5 - (t : Int)) (by rw [wrap64 (by omega) (by omega)]; omega) ?_
     exact ⟨(t, i', d5), ⟨by dsimp only; omega, by dsimp only; omega, by dsimp only; omega, hs5, hR⟩, by dsimp only; omega, ⟨⟨rfl, rfl, rfl, rfl, rfl, trivial⟩, ⟨rfl, trivial⟩, rfl, rfl⟩⟩
    ·rw [if_neg (by simp only [hl3]; simp)] at hE
     refine nEq (x := ((j2 - 1 : Nat) : Int)) (by rw [wrap64 (by omega) (by omega)]; omega) ?_
     refine cOw (H.swap hle hs5 (i := j2) (j := j2 - 1) (by omega) (by omega)) fun v μ' h' hle' hap hR => ?_
     obtain ⟨rfl, e2, rfl⟩ := hR
     obtain rfl := e2.symm
     clear hle' hap
     refine nEq (x := ((j2 + 1 : Nat) : Int)) (by rw [wrap64 (by omega) (by omega)]; omega) ?_
     exact ⟨(j2 + 1, swp d5 j2 (j2 - 1)), ⟨by dsimp only; omega, by dsimp only; omega, H.sw hs5 (by omega) (by omega), hE⟩, by dsimp only; omega, ⟨⟨rfl, rfl, rfl, rfl, rfl, rfl, trivial⟩, ⟨rfl, trivial⟩, rfl, rfl⟩⟩
   ·rw [if_neg (by omega)] at hE
    obtain rfl := hE
    refine nEq (x := 5 - (t : Int)) (by rw [wrap64 (by omega) (by omega)]; omega) ?_
    exact ⟨(t, i', d5), ⟨by dsimp only; omega, by dsimp only; omega, by dsimp only; omega, hs5, hR⟩, by dsimp only; omega, ⟨⟨rfl, rfl, rfl, rfl, rfl, trivial⟩, ⟨rfl, trivial⟩, rfl, rfl⟩⟩
  ·rw [if_neg (by omega)] at hR
   refine nEq (x := 5 - (t : Int)) (by rw [wrap64 (by omega) (by omega)]; omega) ?_
   exact ⟨(t, i', d2), ⟨by dsimp only; omega, by dsimp only; omega, by dsimp only; omega, hs2, hR⟩, by dsimp only; omega, ⟨⟨rfl, rfl, rfl, rfl, rfl, trivial⟩, ⟨rfl, trivial⟩, rfl, rfl⟩⟩
end
end Go.Vx
namespace Go.Vx
open Go.Proofs Classical
open Go.Sort
section
variable {α : Type} {J : Array α → Mem} {μ : Mem} {d : Array α} {rs : Nat} {s : Int}
abbrev JX (J : Array α → Mem) (rs : Nat) (s : Int) (d : Array α) : Mem := (J d).set rs (.cells #[.int .u64 s] 173 (0, 0))
theorem rdX' {K : List Value → Prop} (h : K [.int .u64 s]) : extVC μ (JX J rs s d) ⟨rs, 0, none⟩ 1 K := oIn _ rfl (box_at (Mem.set_at _ _ _)) h
theorem wrX' {v : Int} {K : Mem → Prop} (h : K (JX J rs v d)) : stoVC (JX J rs s d) ⟨rs, 0, none⟩ [.int .u64 v] K := by
 refine sIn [.int .u64 s] 173 (Mem.set_at _ _ _) rfl (Nat.le_refl _) ?_
 have e : Mem.set (JX J rs s d) rs (.cells #[.int .u64 v] 173 (0, 0)) = JX J rs v d := by rw [Mem.set_set]
 show K (Mem.set (JX J rs s d) rs (.cells #[.int .u64 v] 173 (0, 0)))
 rw [e]; exact h
theorem NextF_spec : SpecH Try.prog 169 [.pointer (some ⟨rs, 0, none⟩)] μ (JX J rs s d) fun v μ' h' => ∃ s', v = .int .u64 s' ∧ μ' = μ ∧ h' = JX J rs s' d := by
 refine SpecH.mk [] Try.func169 (by kernel_rfl) ?_
 refine rdX' ?_
 refine rdX' ?_
 refine need_intro (by decide) ?_
 refine num_intro fun _ _ => ?_
 refine num_intro fun _ _ => ?_
 refine wrX' ?_
 refine rdX' ?_
 refine rdX' ?_
 refine need_intro (by decide) ?_
 refine num_intro fun _ _ => ?_
 refine num_intro fun _ _ => ?_
 refine wrX' ?_
 refine rdX' ?_
 refine rdX' ?_
 refine need_intro (by decide) ?_
 refine num_intro fun _ _ => ?_
 refine num_intro fun _ _ => ?_
 refine wrX' ?_
 refine rdX' ?_
 exact rPl ⟨_, rfl, rfl, rfl⟩
end
section
variable {α : Type} [Inhabited α] {lf sf : FuncId} {lb sb : List Value} {n : Nat} {lt : α → α → Bool} {μ0 : Mem} {J : Array α → Mem} {V : Array α → Prop} {μ : Mem} {d : Array α} {rs : Nat} {s : Int}
theorem nextPowerOfTwoF_spec {x : Nat} (hx : x ≤ 1000000000000) : Gives Try.prog 168 [.int .i64 x] μ (.int .u64 ((2 ^ bitsLen x : Nat) : Int)) := by
 refine Spec.mk Try.func168 (by kernel_rfl) ?_
 have h1 : bitsLen x ≤ 40 := (bitsLen_le_iff x 40).2 (by omega)
 have h2 : 2 ^ bitsLen x ≤ 2 ^ 40 := Nat.pow_le_pow_right (by decide) h1
 have h3 : (2 : Nat) ^ 40 = 1099511627776 := by decide
 refine nEq (x := (x : Int)) (by
  show (x : Int) % 18446744073709551616 = _
  omega) ?_
 refine cGv (Len_spec (by omega)) ?_
 refine nEq (x := (bitsLen x : Int)) (by
  show ((bitsLen x : Nat) : Int) % 18446744073709551616 = _
  omega) ?_
 refine need_intro (by omega) ?_
 refine nEq (x := ((2 ^ bitsLen x : Nat) : Int)) (by
  have e : min ((bitsLen x : Int).toNat) IntKind.u64.bits = bitsLen x := by
   show min ((bitsLen x : Int).toNat) 64 = bitsLen x
   omega
  rw [e]
  have h4 : ((2 : Int) ^ bitsLen x) = ((2 ^ bitsLen x : Nat) : Int) := by rw [Int.natCast_pow]; rfl
  show (1 * (2 : Int) ^ bitsLen x) % 18446744073709551616 = _
  rw [Int.one_mul, h4]
  generalize 2 ^ bitsLen x = P at *
  omega) ?_
 exact rGv rfl rfl
theorem breakPatternsF_spec (H : SortBy lf sf lb sb n lt μ0 J V) {a b : Nat} (hle : μ0.Le μ) (hV : V d) (ha : a + 8 ≤ b) (hb : b ≤ n) :
  SpecH Try.prog 153 [fdata lf sf lb sb, .int .i64 a, .int .i64 b] μ (J d) fun v _μ' h' => v = .tuple #[] ∧ ∃ d', PermIn a b d d' ∧ h' = J d' ∧ V d' := by
 have hn := H.max
 refine SpecH.mk [7] Try.func153 (by kernel_rfl) ?_
 intro r1
 refine nEq (x := ((b - a : Nat) : Int)) (by rw [wrap64 (by omega) (by omega)]; omega) ?_
 refine ifd (fun h8 => ?_) (fun h8 => by omega)
 refine num_intro fun s0 _ => ?_
 intro rs hm ho
 have hdom : ∀ d', V d' → J d' rs = none := fun d' hV' => H.dom hV hV' ho
 have H2 : ∀ s, SortBy lf sf lb sb n lt μ0 (JX J rs s) V := fun s => H.beside _ hdom
 generalize hH : Mem.set (J d) rs _ = H1
 obtain rfl : H1 = JX J rs 0 d := hH.symm
 clear hH hm
 refine wrX' ?_
 refine cGv (nextPowerOfTwoF_spec (x := b - a) (by omega)) ?_
 have hP1 : 1 ≤ 2 ^ bitsLen (b - a) := Nat.two_pow_pos _
 have hP2 : 2 ^ bitsLen (b - a) ≤ 2 * (b - a) := two_pow_bitsLen_le (by omega)
 generalize 2 ^ bitsLen (b - a) = P at *
 refine need_intro (by decide) ?_
 refine nEq (x := (((b - a) / 4 : Nat) : Int)) (by rw [Int.tdiv_eq_ediv_of_nonneg (by omega), wrap64 (by omega) (by omega)]; omega) ?_
 refine nEq (x := (((b - a) / 4 * 2 : Nat) : Int)) (by rw [wrap64 (by omega) (by omega)]; omega) ?_
 refine nEq (x := ((a + (b - a) / 4 * 2 : Nat) : Int)) (by rw [wrap64 (by omega) (by omega)]; omega) ?_
 refine nEq (x := ((a + (b - a) / 4 * 2 - 1 : Nat) : Int)) (by rw [wrap64 (by omega) (by omega)]; omega) ?_
 refine lIn (fun p : Nat × Array α × Int => a + (b - a) / 4 * 2 ≤ p.1 + 1 ∧ p.1 ≤ a + (b - a) / 4 * 2 + 2 ∧ V p.2.1 ∧ PermIn a b d p.2.1)
  (fun (i, d, s) => ⟨[(1, .val (.int .i64 a)), (3, .loc 0 r1 0), (6, .val (.int .i64 (b - a : Nat))), (7, .val (.pointer (some ⟨rs, 0, none⟩))), (8, .val (.int .u64 P)), (9, .val (.int .i64 i))], fblk r1 lf sf lb sb, 1, μ, JX J rs s d⟩) (fun p => a + (b - a) / 4 * 2 + 3 - p.1)
  (a + (b - a) / 4 * 2 - 1, d, s0) ⟨by dsimp only; omega, by dsimp only; omega, hV, permIn_refl _ _ _⟩ (fun (_, _, _) => ⟨rfl, rfl⟩) ⟨⟨rfl, rfl, rfl, rfl, rfl, rfl, trivial⟩, ⟨rfl, trivial⟩, rfl, rfl⟩ ?_
 rintro ⟨i, d1, s1⟩ ⟨hi1, hi2, hV1, hp⟩
 dsimp only at hi1 hi2 hV1 hp
 have hs1 : d1.size = n := H.size hV1
 have hs0 : d.size = n := H.size hV
 refine need_intro (by decide) ?_
 refine nEq (x := (((b - a) / 4 : Nat) : Int)) (by rw [Int.tdiv_eq_ediv_of_nonneg (by omega), wrap64 (by omega) (by omega)]; omega) ?_
 refine nEq (x := (((b - a) / 4 * 2 : Nat) : Int)) (by rw [wrap64 (by omega) (by omega)]; omega) ?_
 refine nEq (x := ((a + (b - a) / 4 * 2 : Nat) : Int)) (by rw [wrap64 (by omega) (by omega)]; omega) ?_
 refine nEq (x := ((a + (b - a) / 4 * 2 + 1 : Nat) : Int)) (by rw [wrap64 (by omega) (by omega)]; omega) ?_
 refine ifd (fun hlx => ?_) (fun hlx => ?_)
 rotate_left
 ·exact ret_own _ _ (parts_set (hdom d1 hV1)) ⟨rfl, d1, hp, rfl, hV1⟩
 refine cOw (NextF_spec) fun v μ' h' hle' hap hR => ?_
 obtain ⟨s2, rfl, e1, rfl⟩ := hR
 obtain rfl := e1.symm
 refine nEq (x := ((P - 1 : Nat) : Int)) (by
  show ((P : Int) - 1) % 18446744073709551616 = _
  omega) ?_
 refine num_intro fun y hy => ?_
 have w_ := and_le (x := s2) (m := ((P - 1 : Nat) : Int)) (by omega) (by omega)
 obtain ⟨hy1, hy2⟩ := w_
 rw [← hy] at hy1 hy2
 have w_ := Int.eq_ofNat_of_zero_le hy1
 obtain ⟨o, rfl⟩ := w_
 clear hy
 refine nEq (x := (o : Int)) (wrap64 (by omega) (by omega)) ?_
 refine ifd (fun ho => ?_) (fun ho => ?_)
 ·refine nEq (x := ((o - (b - a) : Nat) : Int)) (by rw [wrap64 (by omega) (by omega)]; omega) ?_
  have ho2 : o - (b - a) < b - a := by omega
  generalize o - (b - a) = q at *
  refine nEq (x := ((a + q : Nat) : Int)) (by rw [wrap64 (by omega) (by omega)]; omega) ?_
  refine cOw ((H2 s2).swap hle hV1 (i := i) (j := a + q) (by omega) (by omega)) fun v μ' h' hle' hap hR => ?_
  obtain ⟨rfl, e2, rfl⟩ := hR
  obtain rfl := e2.symm
  refine nEq (x := ((i + 1 : Nat) : Int)) (by rw [wrap64 (by omega) (by omega)]; omega) ?_
  exact ⟨(i + 1, swp d1 i (a + q), s2), ⟨by dsimp only; omega, by dsimp only; omega, H.sw hV1 (by omega) (by omega), permIn_trans _ _ _ _ _ hp (swp_permIn d1 a b i (a + q) (by omega) (by omega) (by omega) (by omega) (by omega))⟩, by dsimp only; omega, ⟨⟨rfl, rfl, rfl, rfl, rfl, rfl, trivial⟩, ⟨rfl, trivial⟩, rfl, rfl⟩⟩
 ·refine nEq (x := ((a + o : Nat) : Int)) (by rw [wrap64 (by omega) (by omega)]; omega) ?_
  refine cOw ((H2 s2).swap hle hV1 (i := i) (j := a + o) (by omega) (by omega)) fun v μ' h' hle' hap hR => ?_
  obtain ⟨rfl, e2, rfl⟩ := hR
  obtain rfl := e2.symm
  refine nEq (x := ((i + 1 : Nat) : Int)) (by rw [wrap64 (by omega) (by omega)]; omega) ?_
  exact ⟨(i + 1, swp d1 i (a + o), s2), ⟨by dsimp only; omega, by dsimp only; omega, H.sw hV1 (by omega) (by omega), permIn_trans _ _ _ _ _ hp (swp_permIn d1 a b i (a + o) (by omega) (by omega) (by omega) (by omega) (by omega))⟩, by dsimp only; omega, ⟨⟨rfl, rfl, rfl, rfl, rfl, rfl, trivial⟩, ⟨rfl, trivial⟩, rfl, rfl⟩⟩
end
end Go.Vx
namespace Go.Vx
open Go.Proofs Classical
open Go.Sort
section
variable {α : Type} [Inhabited α] {lf sf : FuncId} {lb sb : List Value} {n : Nat} {lt : α → α → Bool} {μ0 : Mem} {J : Array α → Mem} {V : Array α → Prop}
set_option maxHeartbeats 16000000 in
theorem pdqsortF_spec (H : SortBy lf sf lb sb n lt μ0 J V) (hO : SWO lt) : ∀ (m : Nat) (a b limit : Nat) (d : Array α) (μ : Mem), b - a < m → a ≤ b → b ≤ n → V d → μ0.Le μ → limit ≤ 64 → Below lt a b d →
  SpecH Try.prog 121 [fdata lf sf lb sb, .int .i64 a, .int .i64 b, .int .i64 limit] μ (J d) fun v _μ' h' => v = .tuple #[] ∧ ∃ d', PermIn a b d d' ∧ SortedIn lt a b d' ∧ h' = J d' ∧ V d' := by
 intro m
 induction m with
 | zero => intro a b limit d μ h; omega
 | succ m ih =>
 intro a0 b0 limit0 d0 μ hm hab0 hb0 hV0 hle0 hl0 hB0
 have hn := H.max
 refine SpecH.mk [] Try.func121 (by kernel_rfl) ?_
 intro r1
 refine lIn (fun p : Nat × Nat × Nat × Bool × Bool × Array α × Mem => p.1 ≤ p.2.1 ∧ p.2.1 ≤ n ∧ p.2.1 - p.1 ≤ b0 - a0 ∧ p.2.2.1 ≤ 64 ∧ V p.2.2.2.2.2.1 ∧ Below lt p.1 p.2.1 p.2.2.2.2.2.1 ∧ μ0.Le p.2.2.2.2.2.2 ∧ ∀ R, PermIn p.1 p.2.1 p.2.2.2.2.2.1 R → SortedIn lt p.1 p.2.1 R → PermIn a0 b0 d0 R ∧ SortedIn lt a0 b0 R)
  (fun (a, b, limit, wb, wp, d, μ') => ⟨[(1, .val (.int .i64 a)), (2, .val (.int .i64 b)), (3, .val (.int .i64 limit)), (4, .loc 0 r1 0), (8, .val (.bool wb)), (9, .val (.bool wp))], fblk r1 lf sf lb sb, 1, μ', J d⟩) (fun p => p.2.1 - p.1)
  (a0, b0, limit0, true, true, d0, μ) ⟨hab0, hb0, Nat.le_refl _, hl0, hV0, hB0, hle0, fun R h1 h2 => ⟨h1, h2⟩⟩ (fun (_, _, _, _, _, _, _) => ⟨rfl, rfl⟩) ⟨⟨rfl, rfl, rfl, rfl, rfl, rfl, trivial⟩, ⟨rfl, trivial⟩, rfl, rfl⟩ ?_
 rintro ⟨a, b, limit, wb, wp, d, μ1⟩ ⟨hab, hb, hlen, hlim, hs, hB, hle, hfin⟩
 dsimp only at hab hb hlen hlim hs hB hle hfin
 refine nEq (x := ((b - a : Nat) : Int)) (by rw [wrap64 (by omega) (by omega)]; omega) ?_
 refine ifd (fun h12 => ?_) (fun h12 => ?_)
 ·refine cOw (insertionSortF_spec H hle hs hab hb) fun v μ' h' hle' hap hR => ?_
  obtain ⟨rfl, e1, rfl, hV2⟩ := hR
  have hsz := H.size hs
  have q := insertionSort_holds (lt := lt) hO d a b hab (by omega)
  exact rPl ⟨rfl, _, (hfin _ q.1 q.2).1, (hfin _ q.1 q.2).2, rfl, hV2⟩
 refine ifd (fun hl => ?_) (fun hl => ?_)
 ·refine cOw (heapSortF_spec H hle hs (by omega) hb) fun v μ' h' hle' hap hR => ?_
  obtain ⟨rfl, e1, rfl, hV2⟩ := hR
  have hsz := H.size hs
  have q := heapSort_holds (lt := lt) hO d a b hab (by omega)
  exact rPl ⟨rfl, _, (hfin _ q.1 q.2).1, (hfin _ q.1 q.2).2, rfl, hV2⟩
 cases wb with
 | false =>
  refine iIn (fun _ => ?_) (fun h => nomatch h)
  refine cOw (breakPatternsF_spec H hle hs (by omega) hb) fun v μ2 h' hle' hap hR => ?_
  obtain ⟨rfl, d1, p1, rfl, hs1⟩ := hR
  have hsz := H.size hs
  replace hB := hB.perm (by omega) p1
  replace hfin := fun R h1 h2 => hfin R (permIn_trans _ _ _ _ _ p1 h1) h2
  replace hle := hle.trans hle'
  clear hs p1 hle' hsz
  refine nEq (x := ((limit - 1 : Nat) : Int)) (by rw [wrap64 (by omega) (by omega)]; omega) ?_
  refine cOw (choosePivotF_spec H hle hs1 (by omega) hb) fun v μ3 h' hle' hap hR => ?_
  obtain ⟨p, k, hp1, hp2, hk, rfl, rfl⟩ := hR
  replace hle := hle.trans hle'
  clear hle' hap
  refine ifd (fun hk2 => ?_) (fun hk2 => ?_)
  ·refine cOw (reverseRangeF_spec H hle hs1 (by omega) hab hb) fun v μ4 h' hle' hap hR => ?_
   obtain ⟨rfl, e1, rfl, hs2⟩ := hR
   obtain rfl := e1.symm
   clear hle' hap
   have hsz := H.size hs1
   have p2 := reverseRange_holds d1 a b hab (by omega)
   generalize reverseRange d1 a b = d2 at *
   replace hB := hB.perm (by omega) p2
   replace hfin := fun R h1 h2 => hfin R (permIn_trans _ _ _ _ _ p2 h1) h2
   clear p2 hsz
   refine nEq (x := ((b - 1 : Nat) : Int)) (by rw [wrap64 (by omega) (by omega)]; omega) ?_
   refine nEq (x := ((p - a : Nat) : Int)) (by rw [wrap64 (by omega) (by omega)]; omega) ?_
   refine nEq (x := (((b - 1) - (p - a) : Nat) : Int)) (by rw [wrap64 (by omega) (by omega)]; omega) ?_
   refine iIn (fun h => nomatch h) (fun _ => ?_)
   refine ifd (fun ha0 => ?_) (fun ha0 => ?_)
   ·refine nEq (x := ((a - 1 : Nat) : Int)) (by rw [wrap64 (by omega) (by omega)]; omega) ?_
    refine cOw (H.less hle hs2 (i := a - 1) (j := (b - 1) - (p - a)) (by omega) (by omega)) fun v μ' h' hle' hap hR => ?_
    obtain ⟨rfl, e2, rfl⟩ := hR
    obtain rfl := e2.symm
    clear hle' hap
    have hsz := H.size hs2
    refine iIn (fun hnl => ?_) (fun hnl => ?_)
    ·refine cOw (partitionEqualF_spec H (pivot := (b - 1) - (p - a)) hle hs2 (by omega) (by omega) hb) fun v μ6 h' hle' hap hR => ?_
     obtain ⟨rfl, e1, rfl, hs4⟩ := hR
     obtain rfl := e1.symm
     obtain ⟨mid, d4, hx⟩ : ∃ mid d4, partitionEqual lt d2 a b ((b - 1) - (p - a)) = (mid, d4) := ⟨_, _, rfl⟩
     rw [hx] at hs4 ⊢
     have q := round_eq hO (partitionEqual_holds lt) (by omega) (by omega) (by omega) (by omega) hB (by simpa using hnl) hx
     have qa := q.1
     exact ⟨(mid, b, limit - 1, false, wp, d4, _), ⟨q.2.1, hb, by dsimp only; omega, by dsimp only; omega, hs4, q.2.2.2.1, hle, fun R h1 h2 => hfin R (q.2.2.2.2 R h1 h2).1 (q.2.2.2.2 R h1 h2).2⟩, by dsimp only; omega, ⟨⟨rfl, rfl, rfl, rfl, rfl, rfl, trivial⟩, ⟨rfl, trivial⟩, rfl, rfl⟩⟩
    ·refine cOw (partitionF_spec H (pivot := (b - 1) - (p - a)) hle hs2 (by omega) (by omega) hb) fun v μ6 h' hle' hap hR => ?_
     obtain ⟨⟨ap, rfl⟩, e1, rfl, hs4⟩ := hR
     have hsz' := H.size hs2
     obtain rfl := e1.symm
     obtain ⟨mid, ap', d4, hx⟩ : ∃ mid ap' d4, partition lt d2 a b ((b - 1) - (p - a)) = (mid, ap', d4) := ⟨_, _, _, rfl⟩
     rw [hx] at hs4 ⊢
     have w_ := round_part hO (partition_holds lt) (by omega) (by omega) (by omega) hB hx
     obtain ⟨q1, q2, q3, q4, q5, q6, q7⟩ := w_
     refine nEq (x := ((mid - a : Nat) : Int)) (by rw [wrap64 (by omega) (by omega)]; omega) ?_
     refine nEq (x := ((b - mid : Nat) : Int)) (by rw [wrap64 (by omega) (by omega)]; omega) ?_
     refine need_intro (by decide) ?_
     refine nEq (x := (((b - a) / 8 : Nat) : Int)) (by rw [Int.tdiv_eq_ediv_of_nonneg (by omega), wrap64 (by omega) (by omega)]; omega) ?_
     refine ifd (fun hlt => ?_) (fun hlt => ?_)
     ·refine cOw (ih a mid (limit - 1) d4 _ (by omega) (by omega) (by omega) hs4 hle (by omega) q4) fun v μ7 h' hle7 hap hR => ?_
      obtain ⟨rfl, L, g1, g2, rfl, hs5⟩ := hR
      have w_ := q6 L g1 g2
      obtain ⟨g3, g4⟩ := w_
      refine nEq (x := ((mid + 1 : Nat) : Int)) (by rw [wrap64 (by omega) (by omega)]; omega) ?_
      exact ⟨(mid + 1, b, limit - 1, _, ap, L, μ7), ⟨by dsimp only; omega, hb, by dsimp only; omega, by dsimp only; omega, hs5, g3, hle.trans hle7, fun R h1 h2 => hfin R (g4 R h1 h2).1 (g4 R h1 h2).2⟩, by dsimp only; omega, ⟨⟨rfl, rfl, rfl, rfl, rfl, rfl, trivial⟩, ⟨rfl, trivial⟩, rfl, rfl⟩⟩
     ·refine nEq (x := ((mid + 1 : Nat) : Int)) (by rw [wrap64 (by omega) (by omega)]; omega) ?_
      refine cOw (ih (mid + 1) b (limit - 1) d4 _ (by omega) (by omega) (by omega) hs4 hle (by omega) q5) fun v μ7 h' hle7 hap hR => ?_
      obtain ⟨rfl, L, g1, g2, rfl, hs5⟩ := hR
      have w_ := q7 L g1 g2
      obtain ⟨g3, g4⟩ := w_
      exact ⟨(a, mid, limit - 1, _, ap, L, μ7), ⟨by dsimp only; omega, by dsimp only; omega, by dsimp only; omega, by dsimp only; omega, hs5, g3, hle.trans hle7, fun R h1 h2 => hfin R (g4 R h1 h2).1 (g4 R h1 h2).2⟩, by dsimp only; omega, ⟨⟨rfl, rfl, rfl, rfl, rfl, rfl, trivial⟩, ⟨rfl, trivial⟩, rfl, rfl⟩⟩
   ·refine cOw (partitionF_spec H (pivot := (b - 1) - (p - a)) hle hs2 (by omega) (by omega) hb) fun v μ6 h' hle' hap hR => ?_
    obtain ⟨⟨ap, rfl⟩, e1, rfl, hs4⟩ := hR
    have hsz' := H.size hs2
    obtain rfl := e1.symm
    obtain ⟨mid, ap', d4, hx⟩ : ∃ mid ap' d4, partition lt d2 a b ((b - 1) - (p - a)) = (mid, ap', d4) := ⟨_, _, _, rfl⟩
    rw [hx] at hs4 ⊢
    have w_ := round_part hO (partition_holds lt) (by omega) (by omega) (by omega) hB hx
    obtain ⟨q1, q2, q3, q4, q5, q6, q7⟩ := w_
    refine nEq (x := ((mid - a : Nat) : Int)) (by rw [wrap64 (by omega) (by omega)]; omega) ?_
    refine nEq (x := ((b - mid : Nat) : Int)) (by rw [wrap64 (by omega) (by omega)]; omega) ?_
    refine need_intro (by decide) ?_
    refine nEq (x := (((b - a) / 8 : Nat) : Int)) (by rw [Int.tdiv_eq_ediv_of_nonneg (by omega), wrap64 (by omega) (by omega)]; omega) ?_
    refine ifd (fun hlt => ?_) (fun hlt => ?_)
    ·refine cOw (ih a mid (limit - 1) d4 _ (by omega) (by omega) (by omega) hs4 hle (by omega) q4) fun v μ7 h' hle7 hap hR => ?_
     obtain ⟨rfl, L, g1, g2, rfl, hs5⟩ := hR
     have w_ := q6 L g1 g2
     obtain ⟨g3, g4⟩ := w_
     refine nEq (x := ((mid + 1 : Nat) : Int)) (by rw [wrap64 (by omega) (by omega)]; omega) ?_
     exact ⟨(mid + 1, b, limit - 1, _, ap, L, μ7), ⟨by dsimp only; omega, hb, by dsimp only; omega, by dsimp only; omega, hs5, g3, hle.trans hle7, fun R h1 h2 => hfin R (g4 R h1 h2).1 (g4 R h1 h2).2⟩, by dsimp only; omega, ⟨⟨rfl, rfl, rfl, rfl, rfl, rfl, trivial⟩, ⟨rfl, trivial⟩, rfl, rfl⟩⟩
    ·refine nEq (x := ((mid + 1 : Nat) : Int)) (by rw [wrap64 (by omega) (by omega)]; omega) ?_
     refine cOw (ih (mid + 1) b (limit - 1) d4 _ (by omega) (by omega) (by omega) hs4 hle (by omega) q5) fun v μ7 h' hle7 hap hR => ?_
     obtain ⟨rfl, L, g1, g2, rfl, hs5⟩ := hR
     have w_ := q7 L g1 g2
     obtain ⟨g3, g4⟩ := w_
     exact ⟨(a, mid, limit - 1, _, ap, L, μ7), ⟨by dsimp only; omega, by dsimp only; omega, by dsimp only; omega, by dsimp only; omega, hs5, g3, hle.trans hle7, fun R h1 h2 => hfin R (g4 R h1 h2).1 (g4 R h1 h2).2⟩, by dsimp only; omega, ⟨⟨rfl, rfl, rfl, rfl, rfl, rfl, trivial⟩, ⟨rfl, trivial⟩, rfl, rfl⟩⟩
  ·refine iIn (fun h => nomatch h) (fun _ => ?_)
   refine ifd (fun ha0 => ?_) (fun ha0 => ?_)
   ·refine nEq (x := ((a - 1 : Nat) : Int)) (by rw [wrap64 (by omega) (by omega)]; omega) ?_
    refine cOw (H.less hle hs1 (i := a - 1) (j := p) (by omega) (by omega)) fun v μ' h' hle' hap hR => ?_
    obtain ⟨rfl, e2, rfl⟩ := hR
    obtain rfl := e2.symm
    clear hle' hap
    have hsz := H.size hs1
    refine iIn (fun hnl => ?_) (fun hnl => ?_)
    ·refine cOw (partitionEqualF_spec H (pivot := p) hle hs1 (by omega) (by omega) hb) fun v μ6 h' hle' hap hR => ?_
     obtain ⟨rfl, e1, rfl, hs4⟩ := hR
     obtain rfl := e1.symm
     obtain ⟨mid, d4, hx⟩ : ∃ mid d4, partitionEqual lt d1 a b (p) = (mid, d4) := ⟨_, _, rfl⟩
     rw [hx] at hs4 ⊢
     have q := round_eq hO (partitionEqual_holds lt) (by omega) (by omega) (by omega) (by omega) hB (by simpa using hnl) hx
     have qa := q.1
     exact ⟨(mid, b, limit - 1, false, wp, d4, _), ⟨q.2.1, hb, by dsimp only; omega, by dsimp only; omega, hs4, q.2.2.2.1, hle, fun R h1 h2 => hfin R (q.2.2.2.2 R h1 h2).1 (q.2.2.2.2 R h1 h2).2⟩, by dsimp only; omega, ⟨⟨rfl, rfl, rfl, rfl, rfl, rfl, trivial⟩, ⟨rfl, trivial⟩, rfl, rfl⟩⟩
    ·refine cOw (partitionF_spec H (pivot := p) hle hs1 (by omega) (by omega) hb) fun v μ6 h' hle' hap hR => ?_
     obtain ⟨⟨ap, rfl⟩, e1, rfl, hs4⟩ := hR
     have hsz' := H.size hs1
     obtain rfl := e1.symm
     obtain ⟨mid, ap', d4, hx⟩ : ∃ mid ap' d4, partition lt d1 a b (p) = (mid, ap', d4) := ⟨_, _, _, rfl⟩
     rw [hx] at hs4 ⊢
     have w_ := round_part hO (partition_holds lt) (by omega) (by omega) (by omega) hB hx
     obtain ⟨q1, q2, q3, q4, q5, q6, q7⟩ := w_
     refine nEq (x := ((mid - a : Nat) : Int)) (by rw [wrap64 (by omega) (by omega)]; omega) ?_
     refine nEq (x := ((b - mid : Nat) : Int)) (by rw [wrap64 (by omega) (by omega)]; omega) ?_
     refine need_intro (by decide) ?_
     refine nEq (x := (((b - a) / 8 : Nat) : Int)) (by rw [Int.tdiv_eq_ediv_of_nonneg (by omega), wrap64 (by omega) (by omega)]; omega) ?_
     refine ifd (fun hlt => ?_) (fun hlt => ?_)
     ·refine cOw (ih a mid (limit - 1) d4 _ (by omega) (by omega) (by omega) hs4 hle (by omega) q4) fun v μ7 h' hle7 hap hR => ?_
      obtain ⟨rfl, L, g1, g2, rfl, hs5⟩ := hR
      have w_ := q6 L g1 g2
      obtain ⟨g3, g4⟩ := w_
      refine nEq (x := ((mid + 1 : Nat) : Int)) (by rw [wrap64 (by omega) (by omega)]; omega) ?_
      exact ⟨(mid + 1, b, limit - 1, _, ap, L, μ7), ⟨by dsimp only; omega, hb, by dsimp only; omega, by dsimp only; omega, hs5, g3, hle.trans hle7, fun R h1 h2 => hfin R (g4 R h1 h2).1 (g4 R h1 h2).2⟩, by dsimp only; omega, ⟨⟨rfl, rfl, rfl, rfl, rfl, rfl, trivial⟩, ⟨rfl, trivial⟩, rfl, rfl⟩⟩
     ·refine nEq (x := ((mid + 1 : Nat) : Int)) (by rw [wrap64 (by omega) (by omega)]; omega) ?_
      refine cOw (ih (mid + 1) b (limit - 1) d4 _ (by omega) (by omega) (by omega) hs4 hle (by omega) q5) fun v μ7 h' hle7 hap hR => ?_
      obtain ⟨rfl, L, g1, g2, rfl, hs5⟩ := hR
      have w_ := q7 L g1 g2
      obtain ⟨g3, g4⟩ := w_
      exact ⟨(a, mid, limit - 1, _, ap, L, μ7), ⟨by dsimp only; omega, by dsimp only; omega, by dsimp only; omega, by dsimp only; omega, hs5, g3, hle.trans hle7, fun R h1 h2 => hfin R (g4 R h1 h2).1 (g4 R h1 h2).2⟩, by dsimp only; omega, ⟨⟨rfl, rfl, rfl, rfl, rfl, rfl, trivial⟩, ⟨rfl, trivial⟩, rfl, rfl⟩⟩
   ·refine cOw (partitionF_spec H (pivot := p) hle hs1 (by omega) (by omega) hb) fun v μ6 h' hle' hap hR => ?_
    obtain ⟨⟨ap, rfl⟩, e1, rfl, hs4⟩ := hR
    have hsz' := H.size hs1
    obtain rfl := e1.symm
    obtain ⟨mid, ap', d4, hx⟩ : ∃ mid ap' d4, partition lt d1 a b (p) = (mid, ap', d4) := ⟨_, _, _, rfl⟩
    rw [hx] at hs4 ⊢
    have w_ := round_part hO (partition_holds lt) (by omega) (by omega) (by omega) hB hx
    obtain ⟨q1, q2, q3, q4, q5, q6, q7⟩ := w_
    refine nEq (x := ((mid - a : Nat) : Int)) (by rw [wrap64 (by omega) (by omega)]; omega) ?_
    refine nEq (x := ((b - mid : Nat) : Int)) (by rw [wrap64 (by omega) (by omega)]; omega) ?_
    refine need_intro (by decide) ?_
    refine nEq (x := (((b - a) / 8 : Nat) : Int)) (by rw [Int.tdiv_eq_ediv_of_nonneg (by omega), wrap64 (by omega) (by omega)]; omega) ?_
    refine ifd (fun hlt => ?_) (fun hlt => ?_)
    ·refine cOw (ih a mid (limit - 1) d4 _ (by omega) (by omega) (by omega) hs4 hle (by omega) q4) fun v μ7 h' hle7 hap hR => ?_
     obtain ⟨rfl, L, g1, g2, rfl, hs5⟩ := hR
     have w_ := q6 L g1 g2
     obtain ⟨g3, g4⟩ := w_
     refine nEq (x := ((mid + 1 : Nat) : Int)) (by rw [wrap64 (by omega) (by omega)]; omega) ?_
     exact ⟨(mid + 1, b, limit - 1, _, ap, L, μ7), ⟨by dsimp only; omega, hb, by dsimp only; omega, by dsimp only; omega, hs5, g3, hle.trans hle7, fun R h1 h2 => hfin R (g4 R h1 h2).1 (g4 R h1 h2).2⟩, by dsimp only; omega, ⟨⟨rfl, rfl, rfl, rfl, rfl, rfl, trivial⟩, ⟨rfl, trivial⟩, rfl, rfl⟩⟩
    ·refine nEq (x := ((mid + 1 : Nat) : Int)) (by rw [wrap64 (by omega) (by omega)]; omega) ?_
     refine cOw (ih (mid + 1) b (limit - 1) d4 _ (by omega) (by omega) (by omega) hs4 hle (by omega) q5) fun v μ7 h' hle7 hap hR => ?_
     obtain ⟨rfl, L, g1, g2, rfl, hs5⟩ := hR
     have w_ := q7 L g1 g2
     obtain ⟨g3, g4⟩ := w_
     exact ⟨(a, mid, limit - 1, _, ap, L, μ7), ⟨by dsimp only; omega, by dsimp only; omega, by dsimp only; omega, by dsimp only; omega, hs5, g3, hle.trans hle7, fun R h1 h2 => hfin R (g4 R h1 h2).1 (g4 R h1 h2).2⟩, by dsimp only; omega, ⟨⟨rfl, rfl, rfl, rfl, rfl, rfl, trivial⟩, ⟨rfl, trivial⟩, rfl, rfl⟩⟩
 | true =>
  refine iIn (fun h => nomatch h) (fun _ => ?_)
  have hs1 := hs
  refine cOw (choosePivotF_spec H hle hs1 (by omega) hb) fun v μ3 h' hle' hap hR => ?_
  obtain ⟨p, k, hp1, hp2, hk, rfl, rfl⟩ := hR
  replace hle := hle.trans hle'
  clear hle' hap
  refine ifd (fun hk2 => ?_) (fun hk2 => ?_)
  ·refine cOw (reverseRangeF_spec H hle hs1 (by omega) hab hb) fun v μ4 h' hle' hap hR => ?_
   obtain ⟨rfl, e1, rfl, hs2⟩ := hR
   obtain rfl := e1.symm
   clear hle' hap
   have hsz := H.size hs1
   have p2 := reverseRange_holds d a b hab (by omega)
   generalize reverseRange d a b = d2 at *
   replace hB := hB.perm (by omega) p2
   replace hfin := fun R h1 h2 => hfin R (permIn_trans _ _ _ _ _ p2 h1) h2
   clear p2 hsz
   refine nEq (x := ((b - 1 : Nat) : Int)) (by rw [wrap64 (by omega) (by omega)]; omega) ?_
   refine nEq (x := ((p - a : Nat) : Int)) (by rw [wrap64 (by omega) (by omega)]; omega) ?_
   refine nEq (x := (((b - 1) - (p - a) : Nat) : Int)) (by rw [wrap64 (by omega) (by omega)]; omega) ?_
   refine iIn (fun _ => ?_) (fun h => nomatch h)
   refine iIn (fun hwp => ?_) (fun hwp => ?_)
   ·refine ifd (fun _ => ?_) (fun h => absurd rfl h)
    refine cOw (partialInsertionSortF_spec H hle hs2 (by omega) hb) fun v μ5 h' hle' hap hR => ?_
    obtain ⟨rfl, e1, rfl, hs3⟩ := hR
    obtain rfl := e1.symm
    clear hle' hap
    have hsz := H.size hs2
    have q := partialInsertionSort_holds (lt := lt) hO d2 a b (by omega) (by omega) hB
    refine iIn (fun hok => ?_) (fun hok => ?_)
    ·exact rPl ⟨rfl, _, (hfin _ q.1 (q.2 hok)).1, (hfin _ q.1 (q.2 hok)).2, rfl, hs3⟩
    ·have q1 := q.1
     clear q hok
     generalize (partialInsertionSort lt d2 a b).1 = d3 at *
     replace hB := hB.perm (by omega) q1
     replace hfin := fun R h1 h2 => hfin R (permIn_trans _ _ _ _ _ q1 h1) h2
     clear q1 hsz
     refine ifd (fun ha0 => ?_) (fun ha0 => ?_)
     ·refine nEq (x := ((a - 1 : Nat) : Int)) (by rw [wrap64 (by omega) (by omega)]; omega) ?_
      refine cOw (H.less hle hs3 (i := a - 1) (j := (b - 1) - (p - a)) (by omega) (by omega)) fun v μ' h' hle' hap hR => ?_
      obtain ⟨rfl, e2, rfl⟩ := hR
      obtain rfl := e2.symm
      clear hle' hap
      have hsz := H.size hs3
      refine iIn (fun hnl => ?_) (fun hnl => ?_)
      ·refine cOw (partitionEqualF_spec H (pivot := (b - 1) - (p - a)) hle hs3 (by omega) (by omega) hb) fun v μ6 h' hle' hap hR => ?_
       obtain ⟨rfl, e1, rfl, hs4⟩ := hR
       obtain rfl := e1.symm
       obtain ⟨mid, d4, hx⟩ : ∃ mid d4, partitionEqual lt d3 a b ((b - 1) - (p - a)) = (mid, d4) := ⟨_, _, rfl⟩
       rw [hx] at hs4 ⊢
       have q := round_eq hO (partitionEqual_holds lt) (by omega) (by omega) (by omega) (by omega) hB (by simpa using hnl) hx
       have qa := q.1
       exact ⟨(mid, b, limit, true, wp, d4, _), ⟨q.2.1, hb, by dsimp only; omega, by dsimp only; omega, hs4, q.2.2.2.1, hle, fun R h1 h2 => hfin R (q.2.2.2.2 R h1 h2).1 (q.2.2.2.2 R h1 h2).2⟩, by dsimp only; omega, ⟨⟨rfl, rfl, rfl, rfl, rfl, rfl, trivial⟩, ⟨rfl, trivial⟩, rfl, rfl⟩⟩
      ·refine cOw (partitionF_spec H (pivot := (b - 1) - (p - a)) hle hs3 (by omega) (by omega) hb) fun v μ6 h' hle' hap hR => ?_
       obtain ⟨⟨ap, rfl⟩, e1, rfl, hs4⟩ := hR
       have hsz' := H.size hs3
       obtain rfl := e1.symm
       obtain ⟨mid, ap', d4, hx⟩ : ∃ mid ap' d4, partition lt d3 a b ((b - 1) - (p - a)) = (mid, ap', d4) := ⟨_, _, _, rfl⟩
       rw [hx] at hs4 ⊢
       have w_ := round_part hO (partition_holds lt) (by omega) (by omega) (by omega) hB hx
       obtain ⟨q1, q2, q3, q4, q5, q6, q7⟩ := w_
       refine nEq (x := ((mid - a : Nat) : Int)) (by rw [wrap64 (by omega) (by omega)]; omega) ?_
       refine nEq (x := ((b - mid : Nat) : Int)) (by rw [wrap64 (by omega) (by omega)]; omega) ?_
       refine need_intro (by decide) ?_
       refine nEq (x := (((b - a) / 8 : Nat) : Int)) (by rw [Int.tdiv_eq_ediv_of_nonneg (by omega), wrap64 (by omega) (by omega)]; omega) ?_
       refine ifd (fun hlt => ?_) (fun hlt => ?_)
       ·refine cOw (ih a mid (limit) d4 _ (by omega) (by omega) (by omega) hs4 hle (by omega) q4) fun v μ7 h' hle7 hap hR => ?_
        obtain ⟨rfl, L, g1, g2, rfl, hs5⟩ := hR
        have w_ := q6 L g1 g2
        obtain ⟨g3, g4⟩ := w_
        refine nEq (x := ((mid + 1 : Nat) : Int)) (by rw [wrap64 (by omega) (by omega)]; omega) ?_
        exact ⟨(mid + 1, b, limit, _, ap, L, μ7), ⟨by dsimp only; omega, hb, by dsimp only; omega, by dsimp only; omega, hs5, g3, hle.trans hle7, fun R h1 h2 => hfin R (g4 R h1 h2).1 (g4 R h1 h2).2⟩, by dsimp only; omega, ⟨⟨rfl, rfl, rfl, rfl, rfl, rfl, trivial⟩, ⟨rfl, trivial⟩, rfl, rfl⟩⟩
       ·refine nEq (x := ((mid + 1 : Nat) : Int)) (by rw [wrap64 (by omega) (by omega)]; omega) ?_
        refine cOw (ih (mid + 1) b (limit) d4 _ (by omega) (by omega) (by omega) hs4 hle (by omega) q5) fun v μ7 h' hle7 hap hR => ?_
        obtain ⟨rfl, L, g1, g2, rfl, hs5⟩ := hR
        have w_ := q7 L g1 g2
        obtain ⟨g3, g4⟩ := w_
        exact ⟨(a, mid, limit, _, ap, L, μ7), ⟨by dsimp only; omega, by dsimp only; omega, by dsimp only; omega, by dsimp only; omega, hs5, g3, hle.trans hle7, fun R h1 h2 => hfin R (g4 R h1 h2).1 (g4 R h1 h2).2⟩, by dsimp only; omega, ⟨⟨rfl, rfl, rfl, rfl, rfl, rfl, trivial⟩, ⟨rfl, trivial⟩, rfl, rfl⟩⟩
     ·refine cOw (partitionF_spec H (pivot := (b - 1) - (p - a)) hle hs3 (by omega) (by omega) hb) fun v μ6 h' hle' hap hR => ?_
      obtain ⟨⟨ap, rfl⟩, e1, rfl, hs4⟩ := hR
      have hsz' := H.size hs3
      obtain rfl := e1.symm
      obtain ⟨mid, ap', d4, hx⟩ : ∃ mid ap' d4, partition lt d3 a b ((b - 1) - (p - a)) = (mid, ap', d4) := ⟨_, _, _, rfl⟩
      rw [hx] at hs4 ⊢
      have w_ := round_part hO (partition_holds lt) (by omega) (by omega) (by omega) hB hx
      obtain ⟨q1, q2, q3, q4, q5, q6, q7⟩ := w_
      refine nEq (x := ((mid - a : Nat) : Int)) (by rw [wrap64 (by omega) (by omega)]; omega) ?_
      refine nEq (x := ((b - mid : Nat) : Int)) (by rw [wrap64 (by omega) (by omega)]; omega) ?_
      refine need_intro (by decide) ?_
      refine nEq (x := (((b - a) / 8 : Nat) : Int)) (by rw [Int.tdiv_eq_ediv_of_nonneg (by omega), wrap64 (by omega) (by omega)]; omega) ?_
      refine ifd (fun hlt => ?_) (fun hlt => ?_)
      ·refine cOw (ih a mid (limit) d4 _ (by omega) (by omega) (by omega) hs4 hle (by omega) q4) fun v μ7 h' hle7 hap hR => ?_
       obtain ⟨rfl, L, g1, g2, rfl, hs5⟩ := hR
       have w_ := q6 L g1 g2
       obtain ⟨g3, g4⟩ := w_
       refine nEq (x := ((mid + 1 : Nat) : Int)) (by rw [wrap64 (by omega) (by omega)]; omega) ?_
       exact ⟨(mid + 1, b, limit, _, ap, L, μ7), ⟨by dsimp only; omega, hb, by dsimp only; omega, by dsimp only; omega, hs5, g3, hle.trans hle7, fun R h1 h2 => hfin R (g4 R h1 h2).1 (g4 R h1 h2).2⟩, by dsimp only; omega, ⟨⟨rfl, rfl, rfl, rfl, rfl, rfl, trivial⟩, ⟨rfl, trivial⟩, rfl, rfl⟩⟩
      ·refine nEq (x := ((mid + 1 : Nat) : Int)) (by rw [wrap64 (by omega) (by omega)]; omega) ?_
       refine cOw (ih (mid + 1) b (limit) d4 _ (by omega) (by omega) (by omega) hs4 hle (by omega) q5) fun v μ7 h' hle7 hap hR => ?_
       obtain ⟨rfl, L, g1, g2, rfl, hs5⟩ := hR
       have w_ := q7 L g1 g2
       obtain ⟨g3, g4⟩ := w_
       exact ⟨(a, mid, limit, _, ap, L, μ7), ⟨by dsimp only; omega, by dsimp only; omega, by dsimp only; omega, by dsimp only; omega, hs5, g3, hle.trans hle7, fun R h1 h2 => hfin R (g4 R h1 h2).1 (g4 R h1 h2).2⟩, by dsimp only; omega, ⟨⟨rfl, rfl, rfl, rfl, rfl, rfl, trivial⟩, ⟨rfl, trivial⟩, rfl, rfl⟩⟩
   ·refine ifd (fun ha0 => ?_) (fun ha0 => ?_)
    ·refine nEq (x := ((a - 1 : Nat) : Int)) (by rw [wrap64 (by omega) (by omega)]; omega) ?_
     refine cOw (H.less hle hs2 (i := a - 1) (j := (b - 1) - (p - a)) (by omega) (by omega)) fun v μ' h' hle' hap hR => ?_
     obtain ⟨rfl, e2, rfl⟩ := hR
     obtain rfl := e2.symm
     clear hle' hap
     have hsz := H.size hs2
     refine iIn (fun hnl => ?_) (fun hnl => ?_)
     ·refine cOw (partitionEqualF_spec H (pivot := (b - 1) - (p - a)) hle hs2 (by omega) (by omega) hb) fun v μ6 h' hle' hap hR => ?_
      obtain ⟨rfl, e1, rfl, hs4⟩ := hR
      obtain rfl := e1.symm
      obtain ⟨mid, d4, hx⟩ : ∃ mid d4, partitionEqual lt d2 a b ((b - 1) - (p - a)) = (mid, d4) := ⟨_, _, rfl⟩
      rw [hx] at hs4 ⊢
      have q := round_eq hO (partitionEqual_holds lt) (by omega) (by omega) (by omega) (by omega) hB (by simpa using hnl) hx
      have qa := q.1
      exact ⟨(mid, b, limit, true, wp, d4, _), ⟨q.2.1, hb, by dsimp only; omega, by dsimp only; omega, hs4, q.2.2.2.1, hle, fun R h1 h2 => hfin R (q.2.2.2.2 R h1 h2).1 (q.2.2.2.2 R h1 h2).2⟩, by dsimp only; omega, ⟨⟨rfl, rfl, rfl, rfl, rfl, rfl, trivial⟩, ⟨rfl, trivial⟩, rfl, rfl⟩⟩
     ·refine cOw (partitionF_spec H (pivot := (b - 1) - (p - a)) hle hs2 (by omega) (by omega) hb) fun v μ6 h' hle' hap hR => ?_
      obtain ⟨⟨ap, rfl⟩, e1, rfl, hs4⟩ := hR
      have hsz' := H.size hs2
      obtain rfl := e1.symm
      obtain ⟨mid, ap', d4, hx⟩ : ∃ mid ap' d4, partition lt d2 a b ((b - 1) - (p - a)) = (mid, ap', d4) := ⟨_, _, _, rfl⟩
      rw [hx] at hs4 ⊢
      have w_ := round_part hO (partition_holds lt) (by omega) (by omega) (by omega) hB hx
      obtain ⟨q1, q2, q3, q4, q5, q6, q7⟩ := w_
      refine nEq (x := ((mid - a : Nat) : Int)) (by rw [wrap64 (by omega) (by omega)]; omega) ?_
      refine nEq (x := ((b - mid : Nat) : Int)) (by rw [wrap64 (by omega) (by omega)]; omega) ?_
      refine need_intro (by decide) ?_
      refine nEq (x := (((b - a) / 8 : Nat) : Int)) (by rw [Int.tdiv_eq_ediv_of_nonneg (by omega), wrap64 (by omega) (by omega)]; omega) ?_
      refine ifd (fun hlt => ?_) (fun hlt => ?_)
      ·refine cOw (ih a mid (limit) d4 _ (by omega) (by omega) (by omega) hs4 hle (by omega) q4) fun v μ7 h' hle7 hap hR => ?_
       obtain ⟨rfl, L, g1, g2, rfl, hs5⟩ := hR
       have w_ := q6 L g1 g2
       obtain ⟨g3, g4⟩ := w_
       refine nEq (x := ((mid + 1 : Nat) : Int)) (by rw [wrap64 (by omega) (by omega)]; omega) ?_
       exact ⟨(mid + 1, b, limit, _, ap, L, μ7), ⟨by dsimp only; omega, hb, by dsimp only; omega, by dsimp only; omega, hs5, g3, hle.trans hle7, fun R h1 h2 => hfin R (g4 R h1 h2).1 (g4 R h1 h2).2⟩, by dsimp only; omega, ⟨⟨rfl, rfl, rfl, rfl, rfl, rfl, trivial⟩, ⟨rfl, trivial⟩, rfl, rfl⟩⟩
      ·refine nEq (x := ((mid + 1 : Nat) : Int)) (by rw [wrap64 (by omega) (by omega)]; omega) ?_
       refine cOw (ih (mid + 1) b (limit) d4 _ (by omega) (by omega) (by omega) hs4 hle (by omega) q5) fun v μ7 h' hle7 hap hR => ?_
       obtain ⟨rfl, L, g1, g2, rfl, hs5⟩ := hR
       have w_ := q7 L g1 g2
       obtain ⟨g3, g4⟩ := w_
       exact ⟨(a, mid, limit, _, ap, L, μ7), ⟨by dsimp only; omega, by dsimp only; omega, by dsimp only; omega, by dsimp only; omega, hs5, g3, hle.trans hle7, fun R h1 h2 => hfin R (g4 R h1 h2).1 (g4 R h1 h2).2⟩, by dsimp only; omega, ⟨⟨rfl, rfl, rfl, rfl, rfl, rfl, trivial⟩, ⟨rfl, trivial⟩, rfl, rfl⟩⟩
    ·refine cOw (partitionF_spec H (pivot := (b - 1) - (p - a)) hle hs2 (by omega) (by omega) hb) fun v μ6 h' hle' hap hR => ?_
     obtain ⟨⟨ap, rfl⟩, e1, rfl, hs4⟩ := hR
     have hsz' := H.size hs2
     obtain rfl := e1.symm
     obtain ⟨mid, ap', d4, hx⟩ : ∃ mid ap' d4, partition lt d2 a b ((b - 1) - (p - a)) = (mid, ap', d4) := ⟨_, _, _, rfl⟩
     rw [hx] at hs4 ⊢
     have w_ := round_part hO (partition_holds lt) (by omega) (by omega) (by omega) hB hx
     obtain ⟨q1, q2, q3, q4, q5, q6, q7⟩ := w_
     refine nEq (x := ((mid - a : Nat) : Int)) (by rw [wrap64 (by omega) (by omega)]; omega) ?_
     refine nEq (x := ((b - mid : Nat) : Int)) (by rw [wrap64 (by omega) (by omega)]; omega) ?_
     refine need_intro (by decide) ?_
     refine nEq (x := (((b - a) / 8 : Nat) : Int)) (by rw [Int.tdiv_eq_ediv_of_nonneg (by omega), wrap64 (by omega) (by omega)]; omega) ?_
     refine ifd (fun hlt => ?_) (fun hlt => ?_)
     ·refine cOw (ih a mid (limit) d4 _ (by omega) (by omega) (by omega) hs4 hle (by omega) q4) fun v μ7 h' hle7 hap hR => ?_
      obtain ⟨rfl, L, g1, g2, rfl, hs5⟩ := hR
      have w_ := q6 L g1 g2
      obtain ⟨g3, g4⟩ := w_
      refine nEq (x := ((mid + 1 : Nat) : Int)) (by rw [wrap64 (by omega) (by omega)]; omega) ?_
      exact ⟨(mid + 1, b, limit, _, ap, L, μ7), ⟨by dsimp only; omega, hb, by dsimp only; omega, by dsimp only; omega, hs5, g3, hle.trans hle7, fun R h1 h2 => hfin R (g4 R h1 h2).1 (g4 R h1 h2).2⟩, by dsimp only; omega, ⟨⟨rfl, rfl, rfl, rfl, rfl, rfl, trivial⟩, ⟨rfl, trivial⟩, rfl, rfl⟩⟩
     ·refine nEq (x := ((mid + 1 : Nat) : Int)) (by rw [wrap64 (by omega) (by omega)]; omega) ?_
      refine cOw (ih (mid + 1) b (limit) d4 _ (by omega) (by omega) (by omega) hs4 hle (by omega) q5) fun v μ7 h' hle7 hap hR => ?_
      obtain ⟨rfl, L, g1, g2, rfl, hs5⟩ := hR
      have w_ := q7 L g1 g2
      obtain ⟨g3, g4⟩ := w_
      exact ⟨(a, mid, limit, _, ap, L, μ7), ⟨by dsimp only; omega, by dsimp only; omega, by dsimp only; omega, by dsimp only; omega, hs5, g3, hle.trans hle7, fun R h1 h2 => hfin R (g4 R h1 h2).1 (g4 R h1 h2).2⟩, by dsimp only; omega, ⟨⟨rfl, rfl, rfl, rfl, rfl, rfl, trivial⟩, ⟨rfl, trivial⟩, rfl, rfl⟩⟩
  ·refine iIn (fun _ => ?_) (fun h => nomatch h)
   refine iIn (fun hwp => ?_) (fun hwp => ?_)
   ·refine ifd (fun hk1 => ?_) (fun hk1 => ?_)
    ·refine cOw (partialInsertionSortF_spec H hle hs1 (by omega) hb) fun v μ5 h' hle' hap hR => ?_
     obtain ⟨rfl, e1, rfl, hs3⟩ := hR
     obtain rfl := e1.symm
     clear hle' hap
     have hsz := H.size hs1
     have q := partialInsertionSort_holds (lt := lt) hO d a b (by omega) (by omega) hB
     refine iIn (fun hok => ?_) (fun hok => ?_)
     ·exact rPl ⟨rfl, _, (hfin _ q.1 (q.2 hok)).1, (hfin _ q.1 (q.2 hok)).2, rfl, hs3⟩
     ·have q1 := q.1
      clear q hok
      generalize (partialInsertionSort lt d a b).1 = d3 at *
      replace hB := hB.perm (by omega) q1
      replace hfin := fun R h1 h2 => hfin R (permIn_trans _ _ _ _ _ q1 h1) h2
      clear q1 hsz
      refine ifd (fun ha0 => ?_) (fun ha0 => ?_)
      ·refine nEq (x := ((a - 1 : Nat) : Int)) (by rw [wrap64 (by omega) (by omega)]; omega) ?_
       refine cOw (H.less hle hs3 (i := a - 1) (j := p) (by omega) (by omega)) fun v μ' h' hle' hap hR => ?_
       obtain ⟨rfl, e2, rfl⟩ := hR
       obtain rfl := e2.symm
       clear hle' hap
       have hsz := H.size hs3
       refine iIn (fun hnl => ?_) (fun hnl => ?_)
       ·refine cOw (partitionEqualF_spec H (pivot := p) hle hs3 (by omega) (by omega) hb) fun v μ6 h' hle' hap hR => ?_
        obtain ⟨rfl, e1, rfl, hs4⟩ := hR
        obtain rfl := e1.symm
        obtain ⟨mid, d4, hx⟩ : ∃ mid d4, partitionEqual lt d3 a b (p) = (mid, d4) := ⟨_, _, rfl⟩
        rw [hx] at hs4 ⊢
        have q := round_eq hO (partitionEqual_holds lt) (by omega) (by omega) (by omega) (by omega) hB (by simpa using hnl) hx
        have qa := q.1
        exact ⟨(mid, b, limit, true, wp, d4, _), ⟨q.2.1, hb, by dsimp only; omega, by dsimp only; omega, hs4, q.2.2.2.1, hle, fun R h1 h2 => hfin R (q.2.2.2.2 R h1 h2).1 (q.2.2.2.2 R h1 h2).2⟩, by dsimp only; omega, ⟨⟨rfl, rfl, rfl, rfl, rfl, rfl, trivial⟩, ⟨rfl, trivial⟩, rfl, rfl⟩⟩
       ·refine cOw (partitionF_spec H (pivot := p) hle hs3 (by omega) (by omega) hb) fun v μ6 h' hle' hap hR => ?_
        obtain ⟨⟨ap, rfl⟩, e1, rfl, hs4⟩ := hR
        have hsz' := H.size hs3
        obtain rfl := e1.symm
        obtain ⟨mid, ap', d4, hx⟩ : ∃ mid ap' d4, partition lt d3 a b (p) = (mid, ap', d4) := ⟨_, _, _, rfl⟩
        rw [hx] at hs4 ⊢
        have w_ := round_part hO (partition_holds lt) (by omega) (by omega) (by omega) hB hx
        obtain ⟨q1, q2, q3, q4, q5, q6, q7⟩ := w_
        refine nEq (x := ((mid - a : Nat) : Int)) (by rw [wrap64 (by omega) (by omega)]; omega) ?_
        refine nEq (x := ((b - mid : Nat) : Int)) (by rw [wrap64 (by omega) (by omega)]; omega) ?_
        refine need_intro (by decide) ?_
        refine nEq (x := (((b - a) / 8 : Nat) : Int)) (by rw [Int.tdiv_eq_ediv_of_nonneg (by omega), wrap64 (by omega) (by omega)]; omega) ?_
        refine ifd (fun hlt => ?_) (fun hlt => ?_)
        ·refine cOw (ih a mid (limit) d4 _ (by omega) (by omega) (by omega) hs4 hle (by omega) q4) fun v μ7 h' hle7 hap hR => ?_
         obtain ⟨rfl, L, g1, g2, rfl, hs5⟩ := hR
         have w_ := q6 L g1 g2
         obtain ⟨g3, g4⟩ := w_
         refine nEq (x := ((mid + 1 : Nat) : Int)) (by rw [wrap64 (by omega) (by omega)]; omega) ?_
         exact ⟨(mid + 1, b, limit, _, ap, L, μ7), ⟨by dsimp only; omega, hb, by dsimp only; omega, by dsimp only; omega, hs5, g3, hle.trans hle7, fun R h1 h2 => hfin R (g4 R h1 h2).1 (g4 R h1 h2).2⟩, by dsimp only; omega, ⟨⟨rfl, rfl, rfl, rfl, rfl, rfl, trivial⟩, ⟨rfl, trivial⟩, rfl, rfl⟩⟩
        ·refine nEq (x := ((mid + 1 : Nat) : Int)) (by rw [wrap64 (by omega) (by omega)]; omega) ?_
         refine cOw (ih (mid + 1) b (limit) d4 _ (by omega) (by omega) (by omega) hs4 hle (by omega) q5) fun v μ7 h' hle7 hap hR => ?_
         obtain ⟨rfl, L, g1, g2, rfl, hs5⟩ := hR
         have w_ := q7 L g1 g2
         obtain ⟨g3, g4⟩ := w_
         exact ⟨(a, mid, limit, _, ap, L, μ7), ⟨by dsimp only; omega, by dsimp only; omega, by dsimp only; omega, by dsimp only; omega, hs5, g3, hle.trans hle7, fun R h1 h2 => hfin R (g4 R h1 h2).1 (g4 R h1 h2).2⟩, by dsimp only; omega, ⟨⟨rfl, rfl, rfl, rfl, rfl, rfl, trivial⟩, ⟨rfl, trivial⟩, rfl, rfl⟩⟩
      ·refine cOw (partitionF_spec H (pivot := p) hle hs3 (by omega) (by omega) hb) fun v μ6 h' hle' hap hR => ?_
       obtain ⟨⟨ap, rfl⟩, e1, rfl, hs4⟩ := hR
       have hsz' := H.size hs3
       obtain rfl := e1.symm
       obtain ⟨mid, ap', d4, hx⟩ : ∃ mid ap' d4, partition lt d3 a b (p) = (mid, ap', d4) := ⟨_, _, _, rfl⟩
       rw [hx] at hs4 ⊢
       have w_ := round_part hO (partition_holds lt) (by omega) (by omega) (by omega) hB hx
       obtain ⟨q1, q2, q3, q4, q5, q6, q7⟩ := w_
       refine nEq (x := ((mid - a : Nat) : Int)) (by rw [wrap64 (by omega) (by omega)]; omega) ?_
       refine nEq (x := ((b - mid : Nat) : Int)) (by rw [wrap64 (by omega) (by omega)]; omega) ?_
       refine need_intro (by decide) ?_
       refine nEq (x := (((b - a) / 8 : Nat) : Int)) (by rw [Int.tdiv_eq_ediv_of_nonneg (by omega), wrap64 (by omega) (by omega)]; omega) ?_
       refine ifd (fun hlt => ?_) (fun hlt => ?_)
       ·refine cOw (ih a mid (limit) d4 _ (by omega) (by omega) (by omega) hs4 hle (by omega) q4) fun v μ7 h' hle7 hap hR => ?_
        obtain ⟨rfl, L, g1, g2, rfl, hs5⟩ := hR
        have w_ := q6 L g1 g2
        obtain ⟨g3, g4⟩ := w_
        refine nEq (x := ((mid + 1 : Nat) : Int)) (by rw [wrap64 (by omega) (by omega)]; omega) ?_
        exact ⟨(mid + 1, b, limit, _, ap, L, μ7), ⟨by dsimp only; omega, hb, by dsimp only; omega, by dsimp only; omega, hs5, g3, hle.trans hle7, fun R h1 h2 => hfin R (g4 R h1 h2).1 (g4 R h1 h2).2⟩, by dsimp only; omega, ⟨⟨rfl, rfl, rfl, rfl, rfl, rfl, trivial⟩, ⟨rfl, trivial⟩, rfl, rfl⟩⟩
       ·refine nEq (x := ((mid + 1 : Nat) : Int)) (by rw [wrap64 (by omega) (by omega)]; omega) ?_
        refine cOw (ih (mid + 1) b (limit) d4 _ (by omega) (by omega) (by omega) hs4 hle (by omega) q5) fun v μ7 h' hle7 hap hR => ?_
        obtain ⟨rfl, L, g1, g2, rfl, hs5⟩ := hR
        have w_ := q7 L g1 g2
        obtain ⟨g3, g4⟩ := w_
        exact ⟨(a, mid, limit, _, ap, L, μ7), ⟨by dsimp only; omega, by dsimp only; omega, by dsimp only; omega, by dsimp only; omega, hs5, g3, hle.trans hle7, fun R h1 h2 => hfin R (g4 R h1 h2).1 (g4 R h1 h2).2⟩, by dsimp only; omega, ⟨⟨rfl, rfl, rfl, rfl, rfl, rfl, trivial⟩, ⟨rfl, trivial⟩, rfl, rfl⟩⟩
    ·refine ifd (fun ha0 => ?_) (fun ha0 => ?_)
     ·refine nEq (x := ((a - 1 : Nat) : Int)) (by rw [wrap64 (by omega) (by omega)]; omega) ?_
      refine cOw (H.less hle hs1 (i := a - 1) (j := p) (by omega) (by omega)) fun v μ' h' hle' hap hR => ?_
      obtain ⟨rfl, e2, rfl⟩ := hR
      obtain rfl := e2.symm
      clear hle' hap
      have hsz := H.size hs1
      refine iIn (fun hnl => ?_) (fun hnl => ?_)
      ·refine cOw (partitionEqualF_spec H (pivot := p) hle hs1 (by omega) (by omega) hb) fun v μ6 h' hle' hap hR => ?_
       obtain ⟨rfl, e1, rfl, hs4⟩ := hR
       obtain rfl := e1.symm
       obtain ⟨mid, d4, hx⟩ : ∃ mid d4, partitionEqual lt d a b (p) = (mid, d4) := ⟨_, _, rfl⟩
       rw [hx] at hs4 ⊢
       have q := round_eq hO (partitionEqual_holds lt) (by omega) (by omega) (by omega) (by omega) hB (by simpa using hnl) hx
       have qa := q.1
       exact ⟨(mid, b, limit, true, wp, d4, _), ⟨q.2.1, hb, by dsimp only; omega, by dsimp only; omega, hs4, q.2.2.2.1, hle, fun R h1 h2 => hfin R (q.2.2.2.2 R h1 h2).1 (q.2.2.2.2 R h1 h2).2⟩, by dsimp only; omega, ⟨⟨rfl, rfl, rfl, rfl, rfl, rfl, trivial⟩, ⟨rfl, trivial⟩, rfl, rfl⟩⟩
      ·refine cOw (partitionF_spec H (pivot := p) hle hs1 (by omega) (by omega) hb) fun v μ6 h' hle' hap hR => ?_
       obtain ⟨⟨ap, rfl⟩, e1, rfl, hs4⟩ := hR
       have hsz' := H.size hs1
       obtain rfl := e1.symm
       obtain ⟨mid, ap', d4, hx⟩ : ∃ mid ap' d4, partition lt d a b (p) = (mid, ap', d4) := ⟨_, _, _, rfl⟩
       rw [hx] at hs4 ⊢
       have w_ := round_part hO (partition_holds lt) (by omega) (by omega) (by omega) hB hx
       obtain ⟨q1, q2, q3, q4, q5, q6, q7⟩ := w_
       refine nEq (x := ((mid - a : Nat) : Int)) (by rw [wrap64 (by omega) (by omega)]; omega) ?_
       refine nEq (x := ((b - mid : Nat) : Int)) (by rw [wrap64 (by omega) (by omega)]; omega) ?_
       refine need_intro (by decide) ?_
       refine nEq (x := (((b - a) / 8 : Nat) : Int)) (by rw [Int.tdiv_eq_ediv_of_nonneg (by omega), wrap64 (by omega) (by omega)]; omega) ?_
       refine ifd (fun hlt => ?_) (fun hlt => ?_)
       ·refine cOw (ih a mid (limit) d4 _ (by omega) (by omega) (by omega) hs4 hle (by omega) q4) fun v μ7 h' hle7 hap hR => ?_
        obtain ⟨rfl, L, g1, g2, rfl, hs5⟩ := hR
        have w_ := q6 L g1 g2
        obtain ⟨g3, g4⟩ := w_
        refine nEq (x := ((mid + 1 : Nat) : Int)) (by rw [wrap64 (by omega) (by omega)]; omega) ?_
        exact ⟨(mid + 1, b, limit, _, ap, L, μ7), ⟨by dsimp only; omega, hb, by dsimp only; omega, by dsimp only; omega, hs5, g3, hle.trans hle7, fun R h1 h2 => hfin R (g4 R h1 h2).1 (g4 R h1 h2).2⟩, by dsimp only; omega, ⟨⟨rfl, rfl, rfl, rfl, rfl, rfl, trivial⟩, ⟨rfl, trivial⟩, rfl, rfl⟩⟩
       ·refine nEq (x := ((mid + 1 : Nat) : Int)) (by rw [wrap64 (by omega) (by omega)]; omega) ?_
        refine cOw (ih (mid + 1) b (limit) d4 _ (by omega) (by omega) (by omega) hs4 hle (by omega) q5) fun v μ7 h' hle7 hap hR => ?_
        obtain ⟨rfl, L, g1, g2, rfl, hs5⟩ := hR
        have w_ := q7 L g1 g2
        obtain ⟨g3, g4⟩ := w_
        exact ⟨(a, mid, limit, _, ap, L, μ7), ⟨by dsimp only; omega, by dsimp only; omega, by dsimp only; omega, by dsimp only; omega, hs5, g3, hle.trans hle7, fun R h1 h2 => hfin R (g4 R h1 h2).1 (g4 R h1 h2).2⟩, by dsimp only; omega, ⟨⟨rfl, rfl, rfl, rfl, rfl, rfl, trivial⟩, ⟨rfl, trivial⟩, rfl, rfl⟩⟩
     ·refine cOw (partitionF_spec H (pivot := p) hle hs1 (by omega) (by omega) hb) fun v μ6 h' hle' hap hR => ?_
      obtain ⟨⟨ap, rfl⟩, e1, rfl, hs4⟩ := hR
      have hsz' := H.size hs1
      obtain rfl := e1.symm
      obtain ⟨mid, ap', d4, hx⟩ : ∃ mid ap' d4, partition lt d a b (p) = (mid, ap', d4) := ⟨_, _, _, rfl⟩
      rw [hx] at hs4 ⊢
      have w_ := round_part hO (partition_holds lt) (by omega) (by omega) (by omega) hB hx
      obtain ⟨q1, q2, q3, q4, q5, q6, q7⟩ := w_
      refine nEq (x := ((mid - a : Nat) : Int)) (by rw [wrap64 (by omega) (by omega)]; omega) ?_
      refine nEq (x := ((b - mid : Nat) : Int)) (by rw [wrap64 (by omega) (by omega)]; omega) ?_
      refine need_intro (by decide) ?_
      refine nEq (x := (((b - a) / 8 : Nat) : Int)) (by rw [Int.tdiv_eq_ediv_of_nonneg (by omega), wrap64 (by omega) (by omega)]; omega) ?_
      refine ifd (fun hlt => ?_) (fun hlt => ?_)
      ·refine cOw (ih a mid (limit) d4 _ (by omega) (by omega) (by omega) hs4 hle (by omega) q4) fun v μ7 h' hle7 hap hR => ?_
       obtain ⟨rfl, L, g1, g2, rfl, hs5⟩ := hR
       have w_ := q6 L g1 g2
       obtain ⟨g3, g4⟩ := w_
       refine nEq (x := ((mid + 1 : Nat) : Int)) (by rw [wrap64 (by omega) (by omega)]; omega) ?_
       exact ⟨(mid + 1, b, limit, _, ap, L, μ7), ⟨by dsimp only; omega, hb, by dsimp only; omega, by dsimp only; omega, hs5, g3, hle.trans hle7, fun R h1 h2 => hfin R (g4 R h1 h2).1 (g4 R h1 h2).2⟩, by dsimp only; omega, ⟨⟨rfl, rfl, rfl, rfl, rfl, rfl, trivial⟩, ⟨rfl, trivial⟩, rfl, rfl⟩⟩
      ·refine nEq (x := ((mid + 1 : Nat) : Int)) (by rw [wrap64 (by omega) (by omega)]; omega) ?_
       refine cOw (ih (mid + 1) b (limit) d4 _ (by omega) (by omega) (by omega) hs4 hle (by omega) q5) fun v μ7 h' hle7 hap hR => ?_
       obtain ⟨rfl, L, g1, g2, rfl, hs5⟩ := hR
       have w_ := q7 L g1 g2
       obtain ⟨g3, g4⟩ := w_
       exact ⟨(a, mid, limit, _, ap, L, μ7), ⟨by dsimp only; omega, by dsimp only; omega, by dsimp only; omega, by dsimp only; omega, hs5, g3, hle.trans hle7, fun R h1 h2 => hfin R (g4 R h1 h2).1 (g4 R h1 h2).2⟩, by dsimp only; omega, ⟨⟨rfl, rfl, rfl, rfl, rfl, rfl, trivial⟩, ⟨rfl, trivial⟩, rfl, rfl⟩⟩
   ·refine ifd (fun ha0 => ?_) (fun ha0 => ?_)
    ·refine nEq (x := ((a - 1 : Nat) : Int)) (by rw [wrap64 (by omega) (by omega)]; omega) ?_
     refine cOw (H.less hle hs1 (i := a - 1) (j := p) (by omega) (by omega)) fun v μ' h' hle' hap hR => ?_
     obtain ⟨rfl, e2, rfl⟩ := hR
     obtain rfl := e2.symm
     clear hle' hap
     have hsz := H.size hs1
     refine iIn (fun hnl => ?_) (fun hnl => ?_)
     ·refine cOw (partitionEqualF_spec H (pivot := p) hle hs1 (by omega) (by omega) hb) fun v μ6 h' hle' hap hR => ?_
      obtain ⟨rfl, e1, rfl, hs4⟩ := hR
      obtain rfl := e1.symm
      obtain ⟨mid, d4, hx⟩ : ∃ mid d4, partitionEqual lt d a b (p) = (mid, d4) := ⟨_, _, rfl⟩
      rw [hx] at hs4 ⊢
      have q := round_eq hO (partitionEqual_holds lt) (by omega) (by omega) (by omega) (by omega) hB (by simpa using hnl) hx
      have qa := q.1
      exact ⟨(mid, b, limit, true, wp, d4, _), ⟨q.2.1, hb, by dsimp only; omega, by dsimp only; omega, hs4, q.2.2.2.1, hle, fun R h1 h2 => hfin R (q.2.2.2.2 R h1 h2).1 (q.2.2.2.2 R h1 h2).2⟩, by dsimp only; omega, ⟨⟨rfl, rfl, rfl, rfl, rfl, rfl, trivial⟩, ⟨rfl, trivial⟩, rfl, rfl⟩⟩
     ·refine cOw (partitionF_spec H (pivot := p) hle hs1 (by omega) (by omega) hb) fun v μ6 h' hle' hap hR => ?_
      obtain ⟨⟨ap, rfl⟩, e1, rfl, hs4⟩ := hR
      have hsz' := H.size hs1
      obtain rfl := e1.symm
      obtain ⟨mid, ap', d4, hx⟩ : ∃ mid ap' d4, partition lt d a b (p) = (mid, ap', d4) := ⟨_, _, _, rfl⟩
      rw [hx] at hs4 ⊢
      have w_ := round_part hO (partition_holds lt) (by omega) (by omega) (by omega) hB hx
      obtain ⟨q1, q2, q3, q4, q5, q6, q7⟩ := w_
      refine nEq (x := ((mid - a : Nat) : Int)) (by rw [wrap64 (by omega) (by omega)]; omega) ?_
      refine nEq (x := ((b - mid : Nat) : Int)) (by rw [wrap64 (by omega) (by omega)]; omega) ?_
      refine need_intro (by decide) ?_
      refine nEq (x := (((b - a) / 8 : Nat) : Int)) (by rw [Int.tdiv_eq_ediv_of_nonneg (by omega), wrap64 (by omega) (by omega)]; omega) ?_
      refine ifd (fun hlt => ?_) (fun hlt => ?_)
      ·refine cOw (ih a mid (limit) d4 _ (by omega) (by omega) (by omega) hs4 hle (by omega) q4) fun v μ7 h' hle7 hap hR => ?_
       obtain ⟨rfl, L, g1, g2, rfl, hs5⟩ := hR
       have w_ := q6 L g1 g2
       obtain ⟨g3, g4⟩ := w_
       refine nEq (x := ((mid + 1 : Nat) : Int)) (by rw [wrap64 (by omega) (by omega)]; omega) ?_
       exact ⟨(mid + 1, b, limit, _, ap, L, μ7), ⟨by dsimp only; omega, hb, by dsimp only; omega, by dsimp only; omega, hs5, g3, hle.trans hle7, fun R h1 h2 => hfin R (g4 R h1 h2).1 (g4 R h1 h2).2⟩, by dsimp only; omega, ⟨⟨rfl, rfl, rfl, rfl, rfl, rfl, trivial⟩, ⟨rfl, trivial⟩, rfl, rfl⟩⟩
      ·refine nEq (x := ((mid + 1 : Nat) : Int)) (by rw [wrap64 (by omega) (by omega)]; omega) ?_
       refine cOw (ih (mid + 1) b (limit) d4 _ (by omega) (by omega) (by omega) hs4 hle (by omega) q5) fun v μ7 h' hle7 hap hR => ?_
       obtain ⟨rfl, L, g1, g2, rfl, hs5⟩ := hR
       have w_ := q7 L g1 g2
       obtain ⟨g3, g4⟩ := w_
       exact ⟨(a, mid, limit, _, ap, L, μ7), ⟨by dsimp only; omega, by dsimp only; omega, by dsimp only; omega, by dsimp only; omega, hs5, g3, hle.trans hle7, fun R h1 h2 => hfin R (g4 R h1 h2).1 (g4 R h1 h2).2⟩, by dsimp only; omega, ⟨⟨rfl, rfl, rfl, rfl, rfl, rfl, trivial⟩, ⟨rfl, trivial⟩, rfl, rfl⟩⟩
    ·refine cOw (partitionF_spec H (pivot := p) hle hs1 (by omega) (by omega) hb) fun v μ6 h' hle' hap hR => ?_
     obtain ⟨⟨ap, rfl⟩, e1, rfl, hs4⟩ := hR
     have hsz' := H.size hs1
     obtain rfl := e1.symm
     obtain ⟨mid, ap', d4, hx⟩ : ∃ mid ap' d4, partition lt d a b (p) = (mid, ap', d4) := ⟨_, _, _, rfl⟩
     rw [hx] at hs4 ⊢
     have w_ := round_part hO (partition_holds lt) (by omega) (by omega) (by omega) hB hx
     obtain ⟨q1, q2, q3, q4, q5, q6, q7⟩ := w_
     refine nEq (x := ((mid - a : Nat) : Int)) (by rw [wrap64 (by omega) (by omega)]; omega) ?_
     refine nEq (x := ((b - mid : Nat) : Int)) (by rw [wrap64 (by omega) (by omega)]; omega) ?_
     refine need_intro (by decide) ?_
     refine nEq (x := (((b - a) / 8 : Nat) : Int)) (by rw [Int.tdiv_eq_ediv_of_nonneg (by omega), wrap64 (by omega) (by omega)]; omega) ?_
     refine ifd (fun hlt => ?_) (fun hlt => ?_)
     ·refine cOw (ih a mid (limit) d4 _ (by omega) (by omega) (by omega) hs4 hle (by omega) q4) fun v μ7 h' hle7 hap hR => ?_
      obtain ⟨rfl, L, g1, g2, rfl, hs5⟩ := hR
      have w_ := q6 L g1 g2
      obtain ⟨g3, g4⟩ := w_
      refine nEq (x := ((mid + 1 : Nat) : Int)) (by rw [wrap64 (by omega) (by omega)]; omega) ?_
      exact ⟨(mid + 1, b, limit, _, ap, L, μ7), ⟨by dsimp only; omega, hb, by dsimp only; omega, by dsimp only; omega, hs5, g3, hle.trans hle7, fun R h1 h2 => hfin R (g4 R h1 h2).1 (g4 R h1 h2).2⟩, by dsimp only; omega, ⟨⟨rfl, rfl, rfl, rfl, rfl, rfl, trivial⟩, ⟨rfl, trivial⟩, rfl, rfl⟩⟩
     ·refine nEq (x := ((mid + 1 : Nat) : Int)) (by rw [wrap64 (by omega) (by omega)]; omega) ?_
      refine cOw (ih (mid + 1) b (limit) d4 _ (by omega) (by omega) (by omega) hs4 hle (by omega) q5) fun v μ7 h' hle7 hap hR => ?_
      obtain ⟨rfl, L, g1, g2, rfl, hs5⟩ := hR
      have w_ := q7 L g1 g2
      obtain ⟨g3, g4⟩ := w_
      exact ⟨(a, mid, limit, _, ap, L, μ7), ⟨by dsimp only; omega, by dsimp only; omega, by dsimp only; omega, by dsimp only; omega, hs5, g3, hle.trans hle7, fun R h1 h2 => hfin R (g4 R h1 h2).1 (g4 R h1 h2).2⟩, by dsimp only; omega, ⟨⟨rfl, rfl, rfl, rfl, rfl, rfl, trivial⟩, ⟨rfl, trivial⟩, rfl, rfl⟩⟩
end
end Go.Vx
namespace Go.Vx
open Go.Proofs Classical
open Go.Sort
open Go.Extern Go.Extern.Rtype Go.RowKit Go.Lib
section
variable {P : Program} {f : FuncId} {args : List Value} {μ h0 : Mem}
theorem SpecH.ext {R : Value → Mem → Mem → Prop} (h : ∀ w, Holds μ w → Holds h0 w → Apart μ h0 → ∃ v w' μ' h', (callFunc f args.toArray).run P w = .ok (.value v) w' ∧ R v μ' h' ∧ Step μ h0 w μ' h' w') : SpecH P f args μ h0 R :=
 ⟨trivial, fun w h1 h2 h3 => by
  have w_ := h w h1 h2 h3
  obtain ⟨v, w', μ', h', e, hr, hS⟩ := w_
  exact .inr ⟨v, w', e, v, μ', h', rfl, hr, hS⟩⟩
theorem Step.same {w : World} (h1 : Holds μ w) (h2 : Holds h0 w) (h3 : Apart μ h0) : Step μ h0 w μ h0 w :=
 ⟨Mem.Le.refl _, h1, h2, h3, fun _b h h' => absurd h h', fun _b h => .inr h, Nat.le_refl _, fun _ _ _ => rfl, rfl, rfl, rfl⟩
theorem Step.row {w : World} {r : Nat} {cs cs' : Array Value} {ty : TypeId} (h1 : Holds μ w) (h2 : Holds h0 w) (h3 : Apart μ h0) (hr : h0 r = some (.cells cs ty (0, 0))) : Step μ h0 w μ (h0.set r (.cells cs' ty (0, 0))) (w.setRow r cs') := by
 have hne : ∀ b, μ b ≠ none → b ≠ r := fun b hb e => by
  subst e; rw [h3 b hb] at hr; cases hr
 have hg : w.heap[r]? = some (.cells cs ty (0, 0)) := h2 _ _ hr
 refine ⟨Mem.Le.refl _, fun b o hb => ?_, fun b o hb => ?_, fun b hb => ?_, fun b h h' => absurd h h', fun b h => ?_, by simp, fun b _ hb => setRow_other w r b _ fun e => ?_, rfl, rfl, rfl⟩
 ·rw [setRow_other w r b _ (hne b (by simp [hb]))]; exact h1 b o hb
 ·rw [Mem.set_get] at hb
  split at hb
  ·rename_i e; subst e; cases hb; rw [setRow_heap w b _ _ ty (0, 0) hg]
  ·rename_i e; rw [setRow_other w r b _ e]; exact h2 b o hb
 ·rw [Mem.set_ne (hne b hb)]; exact h3 b hb
 ·by_cases e : b = r
  ·subst e; exact .inr (by rw [hr]; simp)
  ·rw [Mem.set_ne e] at h; exact .inr h
 ·subst e; rw [hr] at hb; cases hb
theorem Step.alloc {w : World} {o : Obj} (h1 : Holds μ w) (h2 : Holds h0 w) (h3 : Apart μ h0) : Step μ h0 w (μ.set w.heap.size o) h0 (w.alloc o) ∧ μ w.heap.size = none := by
 have hlt : ∀ b o, w.heap[b]? = some o → b < w.heap.size := fun b o h => (Array.getElem?_eq_some_iff.1 h).1
 have hm : μ w.heap.size = none := by
  cases e : μ w.heap.size with
  | none => rfl
  | some o => have := hlt _ _ (h1 _ _ e); omega
 have hh : h0 w.heap.size = none := by
  cases e : h0 w.heap.size with
  | none => rfl
  | some o => have := hlt _ _ (h2 _ _ e); omega
 have hk : ∀ b, b < w.heap.size → (w.alloc o).heap[b]? = w.heap[b]? := fun b hb => by
  show (w.heap.push o)[b]? = _
  rw [Array.getElem?_push, if_neg (by omega)]
 refine ⟨⟨fun b x hb => ?_, fun b x hb => ?_, fun b x hb => ?_, fun b hb => ?_, fun b h h' => ?_, fun b h => .inr h, by show w.heap.size ≤ (w.heap.push o).size; simp, fun b hb _ => hk b hb, rfl, rfl, rfl⟩, hm⟩
 ·rw [Mem.set_ne (fun e => by subst e; rw [hm] at hb; cases hb)]; exact hb
 ·rw [Mem.set_get] at hb
  split at hb
  ·rename_i e; subst e; cases hb; show (w.heap.push o)[w.heap.size]? = some o; simp
  ·rw [hk b (hlt _ _ (h1 _ _ hb))]; exact h1 _ _ hb
 ·rw [hk b (hlt _ _ (h2 _ _ hb))]; exact h2 _ _ hb
 ·rw [Mem.set_get] at hb
  split at hb
  ·rename_i e; subst e; exact hh
  ·exact h3 b hb
 ·rw [Mem.set_get] at h'
  split at h'
  ·rename_i e; subst e; exact .inl (Nat.le_refl _)
  ·exact absurd h h'
end
structure SlTy (t e : TypeId) (i ie : TypeInfo) (ke : Nat) : Prop where
 hi : Try.prog.info? t = some i
 hd : i.desc = .slice e
 pk : Try.prog.packed t = false
 hie : Try.prog.info? e = some ie
 hke : ∀ w, (Extern.Rtype.kind e).run Try.prog w = .ok ke w
 h9 : swapperK 2 ie ke = 9
theorem SlTy.nine {t e : TypeId} {i ie : TypeInfo} {ke : Nat} (T : SlTy t e i ie ke) {n : Nat} (h : 2 ≤ n) : swapperK n ie ke = 9 := by
 rw [← T.h9]
 unfold swapperK
 have h0 : (n == 0) = false := by simp; omega
 have h1 : (n == 1) = false := by simp; omega
 have h2 : ((2 : Nat) == 0) = false := rfl
 have h3 : ((2 : Nat) == 1) = false := rfl
 simp only [h0, h1, h2, h3]
section
variable {μ : Mem}
theorem valueOf_spec {t e : TypeId} {i ie : TypeInfo} {ke : Nat} (T : SlTy t e i ie ke) (p : Option Addr) (n c : Nat) : Spec Try.prog 113 [.iface t (.slice p n c)] μ fun v μ' => ∃ r, v = .agg #[typeHandle Try.prog t, .pointer (some ⟨r, 0, none⟩), .int .u64 151] ∧ μ' r = some (.cells #[.slice p n c] t (0, 0)) := by
 refine SpecH.ext fun w h1 h2 h3 => ?_
 have hv := run_valueOf_slice (P := Try.prog) t e i T.hi T.hd p n c w
 refine ⟨_, _, _, _, ?_, ⟨w.heap.size, rfl, Mem.set_at _ _ _⟩, (Step.alloc h1 h2 h3).1⟩
 rw [run_callFunc_extern Try.func113 (by kernel_rfl) (by kernel_rfl) (by kernel_rfl) (e := fun args => Extern.ReflectliteValue.unpack (args.getD 0 (.tuple #[]))) (by kernel_rfl),
  show Sem.run Try.prog ((fun args : Array Value => Extern.ReflectliteValue.unpack (args.getD 0 (.tuple #[]))) #[.iface t (.slice p n c)]) w = _ from hv]
 rfl
theorem valueLen_spec {t e : TypeId} {i ie : TypeInfo} {ke : Nat} (T : SlTy t e i ie ke) {p : Option Addr} {n c r : Nat} (hr : μ r = some (.cells #[.slice p n c] t (0, 0))) : Gives Try.prog 116 [.agg #[typeHandle Try.prog t, .pointer (some ⟨r, 0, none⟩), .int .u64 151]] μ (.int .i64 n) := by
 refine SpecH.ext fun w h1 h2 h3 => ?_
 have hc : w.cell? ⟨r, 0, none⟩ = some (.slice p n c) := by simp [World.cell?, h1 _ _ hr]
 have hl := run_valueLen_slice (P := Try.prog) t e i T.hi T.hd T.pk ⟨r, 0, none⟩ p n c w hc
 refine ⟨_, _, _, _, ?_, ⟨rfl, rfl⟩, Step.same h1 h2 h3⟩
 rw [run_callFunc_extern Try.func116 (by kernel_rfl) (by kernel_rfl) (by kernel_rfl) (e := Extern.ReflectliteValue.method (Extern.ReflectliteValue.valueError "reflectlite.Value.Len" 0) Extern.ReflectliteValue.len) (by kernel_rfl), hl]
 rfl
theorem swapper_spec {t e : TypeId} {i ie : TypeInfo} {ke : Nat} (T : SlTy t e i ie ke) (p : Option Addr) {n : Nat} (c : Nat) : ∃ (k : FuncId) (bs : List Value), (2 ≤ n → k = 145 ∧ bs = [.slice p n c, typeHandle Try.prog e]) ∧ Gives Try.prog 114 [.iface t (.slice p n c)] μ (.func (.func k) #[] bs.toArray) := by
 have go : ∀ (f : Nat) (bs : List Value), Try.prog.funcs.findIdx? (·.name == "internal/reflectlite" ++ ".Swapper$" ++ toString (swapperK n ie ke)) = some f → (if swapperK n ie ke ≤ 2 then (#[] : Array Value) else #[.slice p n c, typeHandle Try.prog e]) = bs.toArray →
   Gives Try.prog 114 [.iface t (.slice p n c)] μ (.func (.func f) #[] bs.toArray) := fun f bs hf hbs => by
  refine SpecH.ext fun w h1 h2 h3 => ?_
  have hs := run_swapper_slice (P := Try.prog) t e i ie T.hi T.hd T.hie ke T.hke p n c f hf w
  rw [hbs] at hs
  refine ⟨_, _, _, _, ?_, ⟨rfl, rfl⟩, Step.same h1 h2 h3⟩
  rw [run_callFunc_extern Try.func114 (by kernel_rfl) (by kernel_rfl) (by kernel_rfl) (e := Extern.ReflectliteSwapper.swapper "internal/reflectlite" (Extern.ReflectliteValue.valueError "Swapper")) (by kernel_rfl), hs]
  rfl
 by_cases h2 : 2 ≤ n
 ·refine ⟨145, [.slice p n c, typeHandle Try.prog e], fun _ => ⟨rfl, rfl⟩, go _ _ ?_ ?_⟩
  ·rw [T.nine h2]; kernel_rfl
  ·rw [T.nine h2]; rfl
 ·by_cases h0 : n = 0
  ·subst h0
   refine ⟨137, [], fun h => by omega, go _ _ ?_ ?_⟩
   ·have : swapperK 0 ie ke = 1 := rfl
    have e : Try.prog.funcs.findIdx? (·.name == "internal/reflectlite" ++ ".Swapper$" ++ toString (1 : Nat)) = some 137 := by kernel_rfl
    rw [this]; exact e
   ·rfl
  ·obtain rfl : n = 1 := by omega
   refine ⟨138, [], fun h => by omega, go _ _ ?_ ?_⟩
   ·have : swapperK 1 ie ke = 2 := rfl
    have e : Try.prog.funcs.findIdx? (·.name == "internal/reflectlite" ++ ".Swapper$" ++ toString (2 : Nat)) = some 138 := by kernel_rfl
    rw [this]; exact e
   ·rfl
end
end Go.Vx
namespace Go.Vx
open Go.Proofs Classical
open Go.Sort
open Go.Extern Go.Extern.Rtype Go.RowKit Go.Lib
def RowV (h0 : Mem) (r : Nat) (ty : TypeId) (rest : List Value) (d : Array Value) : Mem := h0.set r (.cells (List.toArray (d.toList.flatMap vcells ++ rest)) ty (0, 0))
def Els (es : Nat) (d : Array Value) : Prop := ∀ x ∈ d.toList, (vcells x).length = es ∧ ∀ u ∈ vcells x, u.oneCell' = true
theorem flat_put {es : Nat} : ∀ {l : List Value}, (∀ y ∈ l, (vcells y).length = es) → ∀ {i : Nat}, i < l.length → ∀ {y : Value}, (vcells y).length = es → ∀ rest : List Value,
  (l.flatMap vcells ++ rest).take (i * es) ++ vcells y ++ (l.flatMap vcells ++ rest).drop (i * es + es) = (l.set i y).flatMap vcells ++ rest
 | [], _, i, hi, _, _, _ => by simp at hi
 | z :: r, hl, 0, _, y, hy, rest => by
  have hz := hl z (by simp)
  simp only [Nat.zero_mul, List.take_zero, List.nil_append, Nat.zero_add, List.set_cons_zero, List.flatMap_cons, List.append_assoc]
  rw [← hz, List.drop_left]
 | z :: r, hl, i + 1, hi, y, hy, rest => by
  have hz := hl z (by simp)
  have ih := flat_put (l := r) (fun y h => hl y (List.mem_cons_of_mem _ h)) (i := i) (by simpa using hi) hy rest
  simp only [List.set_cons_succ, List.flatMap_cons, List.append_assoc] at ih ⊢
  have e1 : (i + 1) * es = (vcells z).length + i * es := by rw [hz, Nat.add_mul, Nat.one_mul, Nat.add_comm]
  rw [e1, List.take_length_add_append, Nat.add_assoc, List.drop_length_add_append, List.append_assoc, ih]
theorem arrV_at {d : Array Value} {k : Nat} (h : k < d.size) : d.toList[k]? = some d[k]! := by
 rw [Array.getElem?_toList, getElem!_pos d k h, Array.getElem?_eq_getElem h]
theorem arrV_mem {d : Array Value} {k : Nat} (h : k < d.size) : d[k]! ∈ d.toList := List.mem_of_getElem? (arrV_at h)
theorem Els.perm {es n : Nat} {d d' : Array Value} (hn : d.size = n) (h : Els es d) (p : PermIn 0 n d d') : Els es d' := fun x hx => by
 have w_ := List.mem_iff_getElem?.1 hx
 obtain ⟨i, hi⟩ := w_
 have hi2 : i < d'.size := by have := (List.getElem?_eq_some_iff.1 hi).1; simpa using this
 rw [arrV_at hi2] at hi
 cases hi
 exact permIn_all d d' 0 n (fun x => (vcells x).length = es ∧ ∀ u ∈ vcells x, u.oneCell' = true) (by omega) p (fun j _ hj => h _ (arrV_mem (by omega))) i (by omega) (by rw [p.1] at hi2; omega)
section
variable {P : Program} {μ h0 : Mem} {r : Nat} {ty : TypeId} {rest : List Value} {d : Array Value} {es : Nat}
theorem RowV.cell (hE : Els es d) {i c : Nat} {v : Value} (hi : i < d.size) (hv : (vcells d[i]!)[c]? = some v) : (RowV h0 r ty rest d).cell ⟨r, i * es + c, none⟩ = some v := by
 have h := flat_at (fun y hy => (hE y hy).1) (arrV_at hi) hv
 simp only [Mem.cell, RowV, Mem.set_at, Option.isSome_none]
 have h2 := (List.getElem?_eq_some_iff.1 h).1
 simp only [List.getElem?_toArray]
 rw [List.getElem?_append_left h2, h]
 rfl
theorem load_row {e : TypeId} {ti : TI} (hti : TIok P e ti) (w : World) (a : Addr) (x : Value) (hl : (vcells x).length = ti.size) (h : ∀ j v, (vcells x)[j]? = some v → w.cell? (a.add j) = some v) (h1 : ti.agg = false → ti.size = 1) (h2 : ∀ u ∈ vcells x, u.oneCell' = true) :
  ∃ y, (loadVar e a).run P w = .ok y w ∧ vcells y = vcells x := by
 have hr := run_loadVar_cells hti w a (vcells x) hl h h1
 refine ⟨_, hr, ?_⟩
 cases hg : ti.agg with
 | true => simp [vcells]
 | false =>
  rw [h1 hg] at hl
  match hc : vcells x, hl with
  | [u], _ =>
   have := h2 u (by rw [hc]; simp)
   simp only [Bool.false_eq_true, if_false, List.getD_cons_zero]
   cases u <;> first | rfl | (simp [Value.oneCell'] at this)
theorem swap9_spec {e : TypeId} {ti : TI} (hti : TIok Try.prog e ti) (h1 : ti.agg = false → ti.size = 1) (hE : Els ti.size d) {n cap i j : Nat} (hd : d.size = n) (hi : i < n) (hj : j < n) :
  SpecH Try.prog 145 [.int .i64 i, .int .i64 j, .slice (some ⟨r, 0, none⟩) n cap, typeHandle Try.prog e] μ (RowV h0 r ty rest d) fun v μ' h' => v = .tuple #[] ∧ μ' = μ ∧ h' = RowV h0 r ty rest (swp d i j) := by
 refine SpecH.ext fun w hm hh ha => ?_
 subst hd
 have hX := hE _ (arrV_mem hi)
 have hY := hE _ (arrV_mem hj)
 have hcell : ∀ k, k < d.size → ∀ c v, (vcells d[k]!)[c]? = some v → w.cell? ((⟨r, k * ti.size, none⟩ : Addr).add c) = some v := fun k hk c v hv => by
  rw [Addr.add_lit']; exact hh.cell (RowV.cell hE hk hv)
 have w_ := load_row hti w ⟨r, i * ti.size, none⟩ d[i]! hX.1 (hcell i hi) h1 hX.2
 obtain ⟨X, l1, eX⟩ := w_
 have w_ := load_row hti w ⟨r, j * ti.size, none⟩ d[j]! hY.1 (hcell j hj) h1 hY.2
 obtain ⟨Y, l2, eY⟩ := w_
 have hb : ∀ k, k < d.size → k * ti.size + ti.size ≤ d.size * ti.size := fun k hk => by
  have := Nat.mul_le_mul_right ti.size (show k + 1 ≤ d.size from hk); rwa [Nat.add_mul, Nat.one_mul] at this
 have hlen : (d.toList.flatMap vcells).length = d.size * ti.size := by rw [flat_len _ fun y hy => (hE y hy).1]; simp
 have hg : w.heap[r]? = some (.cells (List.toArray (d.toList.flatMap vcells ++ rest)) ty (0, 0)) := hh _ _ (Mem.set_at _ _ _)
 have s1 := run_storeVar hti w r (i * ti.size) _ ty hg Y (by rw [eY]; exact hY.1) (by have := hb i hi; simp [hlen]; omega) (by rw [eY]; exact hY.2)
 have e1 := flat_put (fun y hy => (hE y hy).1) (l := d.toList) (i := i) (by simpa using hi) (y := d[j]!) hY.1 rest
 rw [eY, hY.1] at s1
 simp only [e1] at s1
 have hE2 : ∀ y ∈ d.toList.set i d[j]!, (vcells y).length = ti.size := fun y hy => by
  rcases List.mem_or_eq_of_mem_set hy with h | h
  ·exact (hE y h).1
  ·subst h; exact hY.1
 have hlen2 : ((d.toList.set i d[j]!).flatMap vcells).length = d.size * ti.size := by rw [flat_len _ hE2]; simp
 have hg2 : (w.setRow r (List.toArray ((d.toList.set i d[j]!).flatMap vcells ++ rest))).heap[r]? = some (.cells (List.toArray ((d.toList.set i d[j]!).flatMap vcells ++ rest)) ty (0, 0)) := setRow_heap w r _ _ ty (0, 0) hg
 have s2 := run_storeVar hti _ r (j * ti.size) _ ty hg2 X (by rw [eX]; exact hX.1) (by have := hb j hj; simp [hlen2]; omega) (by rw [eX]; exact hX.2)
 have e2 := flat_put hE2 (i := j) (by simpa using hj) (y := d[i]!) hX.1 rest
 rw [eX, hX.1] at s2
 simp only [e2] at s2
 have hsw : (d.toList.set i d[j]!).set j d[i]! = (swp d i j).toList := by rw [swp, Array.toList_setIfInBounds, Array.toList_setIfInBounds]
 rw [hsw] at s2
 have hss : ∀ z z', (w.setRow r z).setRow r z' = w.setRow r z' := fun z z' => setRow_setRow w r z z'
 have hS := Step.row (cs' := List.toArray ((swp d i j).toList.flatMap vcells ++ rest)) hm hh ha (Mem.set_at _ _ _)
 refine ⟨.tuple #[], w.setRow r (List.toArray ((swp d i j).toList.flatMap vcells ++ rest)), μ, RowV h0 r ty rest (swp d i j), ?_, ⟨rfl, rfl, rfl⟩, ?_⟩
 rotate_left
 ·rw [RowV, Mem.set_set] at hS; exact hS
 rw [run_callFunc_extern Try.func145 (by kernel_rfl) (by kernel_rfl) (by kernel_rfl) (e := Extern.ReflectliteSwapper.swap false) (by kernel_rfl)]
 show (Sem.run _ (ReflectliteSwapper.swap false #[.int .i64 i, .int .i64 j, .slice (some ⟨r, 0, none⟩) d.size cap, typeHandle Try.prog e]) w).andThen _ = _
 have i0 : ¬ ((i : Int) < 0) := by omega
 have i1 : ¬ ((i : Int) ≥ d.size) := by omega
 have j0 : ¬ ((j : Int) < 0) := by omega
 have j1 : ¬ ((j : Int) ≥ d.size) := by omega
 rw [rl_swap]
 simp [i0, i1, j0, j1, ofHandle, handleType, typeHandle, ReflectliteSwapper.exchange, hti.run_sizeOf, Addr.add_lit', l1, l2, s1, s2, hss, Result.andThen]
end
section
variable {μ h0 : Mem} {lf sf : FuncId} {lb sb : List Value} {n : Nat}
theorem insertionSortF_tiny (hn : n ≤ 1) : SpecH Try.prog 146 [fdata lf sf lb sb, .int .i64 0, .int .i64 n] μ h0 fun v μ' h' => v = .tuple #[] ∧ μ' = μ ∧ h' = h0 := by
 refine SpecH.mk [] Try.func146 (by kernel_rfl) ?_
 intro r1
 refine nEq (x := ((1 : Nat) : Int)) (by decide) ?_
 refine lIn (fun i : Nat => i = 1)
  (fun i => ⟨[(1, .val (.int .i64 0)), (2, .val (.int .i64 n)), (3, .loc 0 r1 0), (6, .val (.int .i64 i))], fblk r1 lf sf lb sb, 1, μ, h0⟩) (fun i => n - i)
  1 rfl (fun _ => ⟨rfl, rfl⟩) ⟨⟨rfl, rfl, rfl, rfl, trivial⟩, ⟨rfl, trivial⟩, rfl, rfl⟩ ?_
 rintro i rfl
 refine ifd (fun h => by omega) (fun h => ?_)
 exact rPl ⟨rfl, rfl, rfl⟩
end
section
variable {α : Type} [Inhabited α] {enc : α → Value} {μ h0 : Mem} {r : Nat} {ty t e : TypeId} {i ie : TypeInfo} {ke : Nat} {ti : TI} {rest : List Value} {d0 : Array α} {n cap : Nat} {lf : FuncId} {lb : List Value} {lt : α → α → Bool}
theorem map_get {d : Array α} {k : Nat} (h : k < d.size) : (d.map enc)[k]! = enc d[k]! := by
 rw [getElem!_pos _ k (by simpa using h), getElem!_pos d k h, Array.getElem_map]
theorem swp_map {d : Array α} {a b : Nat} (ha : a < d.size) (hb : b < d.size) : (swp d a b).map enc = swp (d.map enc) a b := by
 unfold swp
 rw [map_get hb, map_get ha]
 simp
theorem permIn_map {d d' : Array α} (hn : d.size = n) (p : PermIn 0 n d d') : PermIn 0 n (d.map enc) (d'.map enc) := by
 obtain ⟨h1, h2, h3⟩ := p
 refine ⟨by simp [h1], fun k hk => ?_, ?_⟩
 ·have hk2 : n ≤ k := by omega
  rw [getElem!_neg _ k (by simp; omega), getElem!_neg _ k (by simp; omega)]
 ·have e1 : d'.extract 0 n = d' := by rw [← hn, ← h1]; exact Array.extract_size
  have e2 : d.extract 0 n = d := by rw [← hn]; exact Array.extract_size
  have e3 : (d'.map enc).extract 0 n = d'.map enc := by rw [← hn, ← h1, show d'.size = (d'.map enc).size by simp]; exact Array.extract_size
  have e4 : (d.map enc).extract 0 n = d.map enc := by rw [← hn, show d.size = (d.map enc).size by simp]; exact Array.extract_size
  rw [e1, e2] at h3
  rw [e3, e4]
  simpa using h3.map enc
theorem permIn_list {d d' : Array α} (hn : d.size = n) (p : PermIn 0 n d d') : d'.toList.Perm d.toList := by
 obtain ⟨h1, h2, h3⟩ := p
 have e1 : d'.extract 0 n = d' := by rw [← hn, ← h1]; exact Array.extract_size
 have e2 : d.extract 0 n = d := by rw [← hn]; exact Array.extract_size
 rwa [e1, e2] at h3
theorem SortBy.row (hti : TIok Try.prog e ti) (h1 : ti.agg = false → ti.size = 1) (hE : Els ti.size (d0.map enc)) (hn : d0.size = n) (hmax : n ≤ 1000000000000)
  (less : ∀ {μ' : Mem} {d : Array α} {i j : Nat}, μ.Le μ' → PermIn 0 n d0 d → i < n → j < n → SpecH Try.prog lf (.int .i64 i :: .int .i64 j :: lb) μ' (RowV h0 r ty rest (d.map enc)) fun v μ'' h' => v = .bool (lt d[i]! d[j]!) ∧ μ'' = μ' ∧ h' = RowV h0 r ty rest (d.map enc)) :
  SortBy lf 145 lb [.slice (some ⟨r, 0, none⟩) n cap, typeHandle Try.prog e] n lt μ (fun d => RowV h0 r ty rest (d.map enc)) (PermIn 0 n d0) where
 max := hmax
 size hV := hV.1.trans hn
 sw hV hi hj := permIn_trans _ _ _ _ _ hV (swp_permIn _ _ _ _ _ (Nat.zero_le _) hi (Nat.zero_le _) hj (by rw [hV.1, hn]; exact Nat.le_refl _))
 dom {d d' b} _ _ hb := by
  simp only [RowV, Mem.set_get] at hb ⊢
  split at hb
  ·cases hb
  ·rename_i e; rw [if_neg e]; exact hb
 less hle hV hi hj := less hle hV hi hj
 swap {μ d i j} hle hV hi hj := by
  have hs : d.size = n := hV.1.trans hn
  have := swap9_spec (μ := μ) (h0 := h0) (r := r) (ty := ty) (rest := rest) (cap := cap) hti h1 (d := d.map enc) (hE.perm (by simp [hn]) (permIn_map hn hV)) (by simpa using hs) hi hj
  rwa [← swp_map (by omega) (by omega)] at this
end
section
variable {μ h0 : Mem} {r : Nat} {ty : TypeId} {rest : List Value} {es : Nat}
theorem idxV {n : Nat} {i : Int} {K : Addr → List Value → Prop} {K' : Addr → Prop} (k : Nat) (e : i = k) (hk : k < n) (h : K' ⟨r, k * es, none⟩) : elemVC μ (some ⟨r, 0, none⟩) n es i K K' := by
 subst e
 refine ptr_intro ⟨r, 0, none⟩ rfl (by omega) (by omega) ?_
 have : (⟨r, 0, none⟩ : Addr).add ((k : Int).toNat * es) = ⟨r, k * es, none⟩ := by rw [Addr.add_lit']; simp
 rw [this]; exact h
end
end Go.Vx
namespace Go.Vx
open Go.Proofs Classical
open Go.Sort
open Go.Extern Go.Extern.Rtype Go.RowKit Go.Lib
section
variable {μ h0 : Mem} {lf sf : FuncId} {lb sb : List Value} {n : Nat}
theorem pdqsortF_tiny (hn : n ≤ 1) {limit : Int} : SpecH Try.prog 121 [fdata lf sf lb sb, .int .i64 0, .int .i64 n, .int .i64 limit] μ h0 fun v μ' h' => v = .tuple #[] ∧ μ' = μ ∧ h' = h0 := by
 refine SpecH.mk [] Try.func121 (by kernel_rfl) ?_
 intro r1
 refine lIn (fun _ : Unit => True)
  (fun _ => ⟨[(1, .val (.int .i64 0)), (2, .val (.int .i64 n)), (3, .val (.int .i64 limit)), (4, .loc 0 r1 0), (8, .val (.bool true)), (9, .val (.bool true))], fblk r1 lf sf lb sb, 1, μ, h0⟩) (fun _ => 0)
  () trivial (fun _ => ⟨rfl, rfl⟩) ⟨⟨rfl, rfl, rfl, rfl, rfl, rfl, trivial⟩, ⟨rfl, trivial⟩, rfl, rfl⟩ ?_
 intro _ _
 refine nEq (x := (n : Int)) (by rw [wrap64 (by omega) (by omega)]; omega) ?_
 refine ifd (fun h12 => ?_) (fun h12 => by omega)
 refine cOw (insertionSortF_tiny hn) fun v μ' h' hle' hap hR => ?_
 obtain ⟨rfl, e1, rfl⟩ := hR
 obtain rfl := e1.symm
 exact rPl ⟨rfl, rfl, rfl⟩
end
section
variable {α : Type} [Inhabited α] {enc : α → Value} {μ h0 : Mem} {r : Nat} {ty t e : TypeId} {i ie : TypeInfo} {ke : Nat} {ti : TI} {rest : List Value} {d0 : Array α} {n cap : Nat} {lf : FuncId} {lb : List Value} {lt : α → α → Bool}
theorem SortSlice_spec (T : SlTy t e i ie ke) (hti : TIok Try.prog e ti) (h1 : ti.agg = false → ti.size = 1) (hE : Els ti.size (d0.map enc)) (hn : d0.size = n) (hmax : n ≤ 1000000000000) (hO : SWO lt)
  (less : ∀ {μ' : Mem} {d : Array α} {i j : Nat}, μ.Le μ' → PermIn 0 n d0 d → i < n → j < n → SpecH Try.prog lf (.int .i64 i :: .int .i64 j :: lb) μ' (RowV h0 r ty rest (d.map enc)) fun v μ'' h' => v = .bool (lt d[i]! d[j]!) ∧ μ'' = μ' ∧ h' = RowV h0 r ty rest (d.map enc)) :
  SpecH Try.prog 78 [.iface t (.slice (some ⟨r, 0, none⟩) n cap), .func (.func lf) #[] lb.toArray] μ (RowV h0 r ty rest (d0.map enc)) fun v _μ' h' => v = .tuple #[] ∧ ∃ d', PermIn 0 n d0 d' ∧ SortedIn lt 0 n d' ∧ h' = RowV h0 r ty rest (d'.map enc) := by
 refine SpecH.mk [] Try.func78 (by kernel_rfl) ?_
 refine cPl (valueOf_spec T _ _ _) fun v μ1 hle1 hR => ?_
 obtain ⟨rv, rfl, hrv⟩ := hR
 intro r4
 have w_ := swapper_spec (μ := μ1) T (some ⟨r, 0, none⟩) (n := n) cap
 obtain ⟨k, bs, hk, hsw⟩ := w_
 refine cGv hsw ?_
 refine cGv (valueLen_spec T hrv) ?_
 refine nEq (x := (n : Int)) (by
  show (n : Int) % 18446744073709551616 = _
  omega) ?_
 refine cGv (Len_spec (by omega)) ?_
 have hL : bitsLen n ≤ 40 := (bitsLen_le_iff n 40).2 (by omega)
 by_cases h2 : 2 ≤ n
 ·have w_ := hk h2
  obtain ⟨rfl, rfl⟩ := w_
  refine cOw (pdqsortF_spec (SortBy.row (cap := cap) hti h1 hE hn hmax less) hO (n + 1) 0 n (bitsLen n) d0 _ (by omega) (by omega) (Nat.le_refl _) (permIn_refl _ _ _) hle1 (by omega) (.inl rfl)) fun v μ' h' hle hap hR => ?_
  obtain ⟨rfl, d', p1, p2, rfl, _⟩ := hR
  exact rPl ⟨rfl, d', p1, p2, rfl⟩
 ·refine cOw (pdqsortF_tiny (by omega)) fun v μ' h' hle hap hR => ?_
  obtain ⟨rfl, e1, rfl⟩ := hR
  exact rPl ⟨rfl, d0, permIn_refl _ _ _, fun a b _ h3 h4 => by omega, rfl⟩
end
end Go.Vx
namespace Go.Vx
open Go.Proofs Classical
open Go.Sort
structure Prs {X : Type} (es : Nat) (f : X → D) (ps : List (X × Value)) (g : Mem) : Prop where
 own : OwnRows es (ps.map fun p => f p.1) (ps.map Prod.snd) g
 size : ∀ p ∈ ps, (vcells p.2).length = es ∧ ∀ u ∈ vcells p.2, u.oneCell' = true
section
variable {X : Type} {es : Nat} {f : X → D} {g : Mem}
theorem Prs.uncons {p : X × Value} {ps : List (X × Value)} (h : Prs es f (p :: ps) g) : ∃ g1 g2, Parts g g1 g2 ∧ Own (f p.1) g1 (vcells p.2) ∧ (f p.1).n = es ∧ Prs es f ps g2 := by
 obtain ⟨⟨ho, hs, hl⟩, hz⟩ := h
 simp only [List.map_cons, List.flatMap_cons] at ho
 obtain ⟨c1, c2, g1, g2, e, hp, h1, h2⟩ := ho
 have hn : (f p.1).n = es := hs _ (by simp)
 have hz0 := (hz p (by simp)).1
 have := List.append_inj e (by rw [h1.len, hn, hz0])
 obtain ⟨rfl, rfl⟩ := this
 exact ⟨g1, g2, hp, h1, hn, ⟨h2, fun x hx => hs x (by simp only [List.map_cons]; exact List.mem_cons_of_mem _ hx), by simp⟩, fun q hq => hz q (List.mem_cons_of_mem _ hq)⟩
theorem Prs.cons {p : X × Value} {ps : List (X × Value)} {g1 g2 : Mem} (hp : Parts g g1 g2) (h1 : Own (f p.1) g1 (vcells p.2)) (hn : (f p.1).n = es) (hz : (vcells p.2).length = es ∧ ∀ u ∈ vcells p.2, u.oneCell' = true) (h : Prs es f ps g2) : Prs es f (p :: ps) g := by
 refine ⟨⟨?_, ?_, by simp⟩, ?_⟩
 ·simp only [List.map_cons, List.flatMap_cons]
  exact OwnS.cons hp h1 h.own.own
 ·intro x hx
  simp only [List.map_cons, List.mem_cons] at hx
  rcases hx with rfl | hx
  ·exact hn
  ·exact h.own.size x hx
 ·intro q hq
  rcases List.mem_cons.1 hq with rfl | hq
  ·exact hz
  ·exact h.size q hq
theorem Prs.perm {ps ps' : List (X × Value)} (h : ps.Perm ps') : ∀ {g : Mem}, Prs es f ps g → Prs es f ps' g := by
 induction h with
 | nil => exact fun h => h
 | cons p _ ih =>
  intro g h
  obtain ⟨g1, g2, hp, h1, hn, h2⟩ := h.uncons
  exact Prs.cons hp h1 hn (h.size _ (by simp)) (ih h2)
 | swap p q l =>
  intro g h
  obtain ⟨g1, k, hp, h1, hn, h2⟩ := h.uncons
  obtain ⟨g2, g3, hq, h3, hn2, h4⟩ := h2.uncons
  have w_ := Parts.assoc hp hq.symm
  obtain ⟨m, hm1, hm2⟩ := w_
  exact Prs.cons hm2.symm h3 hn2 (h.size _ (by simp)) (Prs.cons hm1 h1 hn (h.size _ (by simp)) h4)
 | trans _ _ ih1 ih2 => exact fun h => ih2 (ih1 h)
theorem Prs.at : ∀ {ps : List (X × Value)} {g : Mem}, Prs es f ps g → ∀ p ∈ ps, ∃ g' : Mem, g'.Le g ∧ Own (f p.1) g' (vcells p.2)
 | [], _, _, p, hp => by simp at hp
 | q :: ps, g, h, p, hp => by
  obtain ⟨g1, g2, hpp, h1, _, h2⟩ := h.uncons
  rcases List.mem_cons.1 hp with rfl | hp
  ·exact ⟨g1, hpp.left, h1⟩
  ·have w_ := Prs.at h2 p hp
   obtain ⟨g', h3, h4⟩ := w_
   exact ⟨g', h3.trans hpp.right, h4⟩
end
section
variable {X : Type} {es : Nat} {f : X → D}
theorem Prs.nil : Prs es f [] Mem.nil := ⟨OwnRows.nil es, fun p hp => by simp at hp⟩
theorem Prs.sub {ps ps' : List (X × Value)} (h : ps'.Sublist ps) : ∀ {g : Mem}, Prs es f ps g → ∃ g' : Mem, g'.Le g ∧ Prs es f ps' g' := by
 induction h with
 | slnil => exact fun {g} h => ⟨g, Mem.Le.refl _, h⟩
 | cons p _ ih =>
  intro g h
  obtain ⟨g1, g2, hp, h1, hn, h2⟩ := h.uncons
  obtain ⟨g', h3, h4⟩ := ih h2
  exact ⟨g', h3.trans hp.right, h4⟩
 | cons_cons p _ ih =>
  intro g h
  obtain ⟨g1, g2, hp, h1, hn, h2⟩ := h.uncons
  obtain ⟨g', h3, h4⟩ := ih h2
  have ha : Apart g1 g' := fun b hb => by
   have := hp.apart b hb
   cases e : g' b with
   | none => rfl
   | some o => rw [h3 b o e] at this; cases this
  exact ⟨g1.join g', join_le hp.left (h3.trans hp.right), Prs.cons (Parts.join ha) h1 hn (h.size _ (by simp)) h4⟩
end
end Go.Vx
namespace Go.Vx
open Go.Proofs Classical
open Go.Sort
noncomputable instance : Inhabited B := ⟨⟨0, .nil⟩⟩
section
variable {μ h0 g : Mem} {r : Nat} {ty : TypeId} {rest : List Value}
end
end Go.Vx
namespace Go.Vx
open Go.Proofs Classical
open Go.Sort
def AscB (l : List B) : Prop := l.Pairwise fun a b => a.var < b.var
theorem Srt.asc {bs : List B} (h : Srt bs) : AscB bs := by
 rw [AscB, List.pairwise_iff_getElem]
 intro i j hi hj hij
 exact h i j _ _ hij (by simp) (by simp)
theorem AscB.srt {bs : List B} (h : AscB bs) : Srt bs := fun i j b c hij hb hc => by
 rw [AscB, List.pairwise_iff_getElem] at h
 have w_ := List.getElem?_eq_some_iff.1 hb
 obtain ⟨hi, rfl⟩ := w_
 have w_ := List.getElem?_eq_some_iff.1 hc
 obtain ⟨hj, rfl⟩ := w_
 exact h i j hi hj hij
theorem AscB.uniq {a b : B} {l : List B} (h : AscB l) (ha : a ∈ l) (hb : b ∈ l) (e : a.var = b.var) : a = b := by
 have w_ := List.mem_iff_getElem?.1 ha
 obtain ⟨i, hi⟩ := w_
 have w_ := List.mem_iff_getElem?.1 hb
 obtain ⟨j, hj⟩ := w_
 rcases Nat.lt_trichotomy i j with h1 | h1 | h1
 ·have := h.srt i j _ _ h1 hi hj; omega
 ·subst h1; rw [hi] at hj; cases hj; rfl
 ·have := h.srt j i _ _ h1 hj hi; omega
theorem AscB.nodup {l : List B} (h : AscB l) : (l.map B.var).Nodup := by
 rw [List.Nodup, List.pairwise_map]
 exact h.imp fun h => by omega
section
variable {μ : Mem}
end
end Go.Vx
namespace Go.Vx
open Go.Proofs Classical
def GoodB (b : B) : Prop := b.to.good ∧ 0 ≤ b.var ∧ b.var ≤ 100000
theorem Vals.good {bs : List B} (h : Vals bs) : ∀ b ∈ bs, GoodB b := fun b hb => ⟨(h.tok b hb).1, h.var b hb⟩
theorem InsPos.asc {bs : List B} {b : B} {k : Nat} (h : AscB bs) (hk : InsPos bs b.var k) (hn : b.var ∉ bs.map B.var) : AscB (insAt bs b k) := by
 obtain ⟨hk0, hk1, hk2⟩ := hk
 unfold insAt AscB
 have h1 : ∀ a ∈ bs.take k, a.var < b.var := fun a ha => by
  have w_ := List.mem_iff_getElem?.1 ha
  obtain ⟨i, hi⟩ := w_
  have hik : i < k := by
   have := (List.getElem?_eq_some_iff.1 hi).1
   rw [List.length_take] at this; omega
  rw [List.getElem?_take_of_lt hik] at hi
  have hne : a.var ≠ b.var := fun e => hn (by rw [← e]; exact List.mem_map.2 ⟨a, mAt hi, rfl⟩)
  have w_ := aSo (l := bs) (i := k - 1) (by omega)
  obtain ⟨c, hc⟩ := w_
  have h2 := hk1 c hc (by omega)
  rcases Nat.lt_or_ge i (k - 1) with h3 | h3
  ·have := h.srt i (k - 1) a c h3 hi hc; omega
  ·obtain rfl : i = k - 1 := by omega
   rw [hi] at hc; cases hc; omega
 have h2 : ∀ a ∈ bs.drop k, b.var < a.var := fun a ha => by
  have w_ := List.mem_iff_getElem?.1 ha
  obtain ⟨i, hi⟩ := w_
  rw [List.getElem?_drop] at hi
  exact hk2 (k + i) a (by omega) hi
 rw [List.pairwise_append, List.pairwise_append]
 refine ⟨h.sublist (List.take_sublist _ _), ⟨List.pairwise_singleton _ _, h.sublist (List.drop_sublist _ _), fun a ha c hc => ?_⟩, fun a ha c hc => ?_⟩
 ·rw [List.mem_singleton] at ha; subst ha; exact h2 c hc
 ·rcases List.mem_append.1 hc with hc | hc
  ·rw [List.mem_singleton] at hc; subst hc; exact h1 a ha
  ·have := h1 a ha; have := h2 c hc; omega
section
variable {μ : Mem}
set_option maxHeartbeats 4000000 in
end
end Go.Vx
namespace Go.Vx
open Go.Proofs Classical
open Go.Sort
def kokAt (l : List VK) (i : Nat) (k : VK) : Prop := (0 ≤ k.var ∧ k.var ≤ 100000) ∧ (k.kind = 2 ∨ k.kind = 3) ∧ ∀ j c, j + 1 = i → l[j]? = some c → c.var < k.var
def kindsOk (l : List VK) : Prop := ∀ i k, l[i]? = some k → kokAt l i k
def AscK (l : List VK) : Prop := l.Pairwise fun a b => a.var < b.var
theorem AscK.at {l : List VK} (h : AscK l) : ∀ (i j : Nat) b c, i < j → l[i]? = some b → l[j]? = some c → b.var < c.var := fun i j b c hij hb hc => by
 rw [AscK, List.pairwise_iff_getElem] at h
 have w_ := List.getElem?_eq_some_iff.1 hb
 obtain ⟨hi, rfl⟩ := w_
 have w_ := List.getElem?_eq_some_iff.1 hc
 obtain ⟨hj, rfl⟩ := w_
 exact h i j hi hj hij
theorem AscK.of_at {l : List VK} (h : ∀ (i j : Nat) b c, i < j → l[i]? = some b → l[j]? = some c → b.var < c.var) : AscK l := by
 rw [AscK, List.pairwise_iff_getElem]
 intro i j hi hj hij
 exact h i j _ _ hij (by simp) (by simp)
theorem kindsOk.asc {l : List VK} (h : kindsOk l) : AscK l := AscK.of_at fun i j b c hij hb hc => by
 induction j generalizing c with
 | zero => omega
 | succ j ih =>
  have hj : j < l.length := by have := (List.getElem?_eq_some_iff.1 hc).1; omega
  have w_ := aSo hj
  obtain ⟨d, hd⟩ := w_
  have h1 := (h (j + 1) c hc).2.2 j d rfl hd
  rcases Nat.lt_or_ge i j with h2 | h2
  ·have := ih d h2 hd; omega
  ·obtain rfl : i = j := by omega
   rw [hb] at hd; cases hd; exact h1
theorem AscK.uniq {a b : VK} {l : List VK} (h : AscK l) (ha : a ∈ l) (hb : b ∈ l) (e : a.var = b.var) : a = b := by
 have w_ := List.mem_iff_getElem?.1 ha
 obtain ⟨i, hi⟩ := w_
 have w_ := List.mem_iff_getElem?.1 hb
 obtain ⟨j, hj⟩ := w_
 rcases Nat.lt_trichotomy i j with h1 | h1 | h1
 ·have := h.at i j _ _ h1 hi hj; omega
 ·subst h1; rw [hi] at hj; cases hj; rfl
 ·have := h.at j i _ _ h1 hj hi; omega
theorem AscK.nodup {l : List VK} (h : AscK l) : (l.map VK.var).Nodup := by
 rw [List.Nodup, List.pairwise_map]
 exact h.imp fun h => by omega
section
variable {μ : Mem}
end
end Go.Vx
namespace Go.Vx
open Go.Proofs Classical
open Go.Sort
theorem AscK.ins {l : List VK} {y : VK} {i : Nat} (h : AscK l) (hi : i ≤ l.length) (h1 : ∀ j c, j < i → l[j]? = some c → c.var < y.var) (h2 : ∀ j c, i ≤ j → l[j]? = some c → y.var < c.var) : AscK (insAt l y i) := by
 have g1 : ∀ a ∈ l.take i, a.var < y.var := fun a ha => by
  have w_ := List.mem_iff_getElem?.1 ha
  obtain ⟨j, hj⟩ := w_
  have hji : j < i := by
   have := (List.getElem?_eq_some_iff.1 hj).1
   rw [List.length_take] at this; omega
  rw [List.getElem?_take_of_lt hji] at hj
  exact h1 j a hji hj
 have g2 : ∀ a ∈ l.drop i, y.var < a.var := fun a ha => by
  have w_ := List.mem_iff_getElem?.1 ha
  obtain ⟨j, hj⟩ := w_
  rw [List.getElem?_drop] at hj
  exact h2 (i + j) a (by omega) hj
 unfold insAt AscK
 rw [List.pairwise_append, List.pairwise_append]
 refine ⟨h.sublist (List.take_sublist _ _), ⟨List.pairwise_singleton _ _, h.sublist (List.drop_sublist _ _), fun a ha c hc => ?_⟩, fun a ha c hc => ?_⟩
 ·rw [List.mem_singleton] at ha; subst ha; exact g2 c hc
 ·rcases List.mem_append.1 hc with hc | hc
  ·rw [List.mem_singleton] at hc; subst hc; exact g1 a ha
  ·have := g1 a ha; have := g2 c hc; omega
section
variable {μ : Mem}
end
end Go.Vx
namespace Go.Vx
open Go.Proofs Classical
open Go.Sort
def VK.v (k : VK) : Value := .agg #[.int .i64 k.var, .int .i64 k.kind]
noncomputable instance : Inhabited VK := ⟨⟨0, 0⟩⟩
section
variable {μ : Mem}
end
section
variable {μ h0 : Mem} {r : Nat} {ty : TypeId} {rest : List Value}
end
section
variable {μ : Mem}
end
end Go.Vx
namespace Go.Vx
open Go.Proofs Classical
section
variable {μ : Mem}
theorem Ds.cnt_eq (x : Ds) : x.d.cnt = D.cnts (x.bs.map Bd.d) := by
 rw [Ds.d_eq, D.cnt]
end
end Go.Vx
namespace Go.Vx
open Go.Proofs Classical
noncomputable def cMk (a b : Mk) : Int := lexI (cInt a.var b.var) (cName a.tag b.tag)
theorem cMk_ord : Ord3 cMk where
 zero x y := by
  rw [cMk, lexI_zero, cInt_ord.zero, cName_ord.zero]
  cases x; cases y; simp
 anti x y := cInt_ord.lex_anti fun _ => cName_ord.anti _ _
 trans x y z := cInt_ord.lex_trans fun _ _ => cName_ord.trans _ _ _
theorem sgn_neg (b : Bool) : sgn b < 0 ↔ b = true := by cases b <;> simp [sgn]
theorem cMk_lt (a b : Mk) : cMk a b < 0 ↔ a.var < b.var ∨ a.var = b.var ∧ Op.bytesLess a.tag.data.toList b.tag.data.toList = true := by
 unfold cMk lexI cInt
 by_cases h1 : a.var = b.var
 ·rw [if_pos h1, if_pos rfl]
  have : ¬ a.var < b.var := by omega
  simp only [h1, true_and]
  unfold cName
  by_cases h2 : a.tag = b.tag
  ·rw [if_pos h2, h2, bl_irrefl]; simp
  ·rw [if_neg h2, sgn_neg]
   exact ⟨.inr, fun k => k.elim (fun k => by omega) id⟩
 ·rw [if_neg h1, if_neg (sgn_ne _), sgn_neg]
  simp [h1]
noncomputable def ltM (a b : Mk) : Bool := decide (cMk a b < 0)
theorem ltM_eq (a b : Mk) : ltM a b = (decide (a.var < b.var) || (decide (a.var = b.var) && Op.bytesLess a.tag.data.toList b.tag.data.toList)) := by
 rw [ltM, Bool.eq_iff_iff]
 simp only [decide_eq_true_eq, Bool.or_eq_true, Bool.and_eq_true]
 exact cMk_lt a b
def mokAt (l : List Mk) (i : Nat) (k : Mk) : Prop := (0 ≤ k.var ∧ k.var ≤ 100000) ∧ IsNm k.tag ∧ ∀ j c, j + 1 = i → l[j]? = some c → cMk c k < 0
def marksOk (l : List Mk) : Prop := ∀ i k, l[i]? = some k → mokAt l i k
def GoodM (k : Mk) : Prop := (0 ≤ k.var ∧ k.var ≤ 100000) ∧ IsNm k.tag
theorem asc_at {α : Type} {c : α → α → Int} (h : Ord3 c) {l : List α} (hn : ∀ i k, l[i]? = some k → ∀ j b, j + 1 = i → l[j]? = some b → c b k < 0) : Asc3 c l := by
 have key : ∀ (i j : Nat) b k, i < j → l[i]? = some b → l[j]? = some k → c b k < 0 := fun i j b k hij hb hk => by
  induction j generalizing k with
  | zero => omega
  | succ j ih =>
   have hj : j < l.length := by have := (List.getElem?_eq_some_iff.1 hk).1; omega
   have w_ := aSo hj
   obtain ⟨d, hd⟩ := w_
   have h1 := hn (j + 1) k hk j d rfl hd
   rcases Nat.lt_or_ge i j with h2 | h2
   ·exact h.trans _ _ _ (ih d h2 hd) h1
   ·obtain rfl : i = j := by omega
    rw [hb] at hd; cases hd; exact h1
 rw [Asc3, List.pairwise_iff_getElem]
 intro i j hi hj hij
 exact key i j _ _ hij (by simp) (by simp)
theorem asc_get {α : Type} {c : α → α → Int} {l : List α} (h : Asc3 c l) {i j : Nat} {a b : α} (hij : i < j) (ha : l[i]? = some a) (hb : l[j]? = some b) : c a b < 0 := by
 rw [Asc3, List.pairwise_iff_getElem] at h
 have w_ := List.getElem?_eq_some_iff.1 ha
 obtain ⟨hi, rfl⟩ := w_
 have w_ := List.getElem?_eq_some_iff.1 hb
 obtain ⟨hj, rfl⟩ := w_
 exact h i j hi hj hij
theorem marksOk_iff (l : List Mk) : marksOk l ↔ Asc3 cMk l ∧ ∀ k ∈ l, GoodM k := by
 constructor
 ·intro h
  refine ⟨asc_at cMk_ord fun i k hk j b hj hb => (h i k hk).2.2 j b hj hb, fun k hk => ?_⟩
  have w_ := List.mem_iff_getElem?.1 hk
  obtain ⟨i, hi⟩ := w_
  exact ⟨(h i k hi).1, (h i k hi).2.1⟩
 ·rintro ⟨h1, h2⟩ i k hk
  have := h2 k (mAt hk)
  exact ⟨this.1, this.2, fun j c hj hc => asc_get h1 (by omega) hc hk⟩
theorem marksOk_nil : marksOk [] := fun i k h => by simp at h
def mksOf (x : T) (tag : ByteArray) : List Mk := x.vars.map fun v => ⟨v, tag⟩
theorem mem_mksOf {x : T} {tag : ByteArray} {z : Mk} : z ∈ mksOf x tag ↔ ∃ n ∈ x.vars, z = ⟨n, tag⟩ := by
 rw [mksOf, List.mem_map]
 exact ⟨fun ⟨n, h, e⟩ => ⟨n, h, e.symm⟩, fun ⟨n, h, e⟩ => ⟨n, h, e.symm⟩⟩
noncomputable def addM1 (l : List Mk) (x : T) (tag : ByteArray) : Option (List Mk) := if x.hasSym tag then none else some (ascOf cMk_ord (l ++ mksOf x tag))
theorem addM1_len {l m : List Mk} {x : T} {tag : ByteArray} (h : addM1 l x tag = some m) : m.length ≤ l.length + x.vars.length := by
 unfold addM1 at h
 split at h
 ·cases h
 ·cases h
  have := ascOf_len cMk_ord (l ++ mksOf x tag)
  rw [List.length_append] at this
  simpa [mksOf] using this
theorem addM1_ok {l m : List Mk} {x : T} {tag : ByteArray} (hl : marksOk l) (hx : x.good) (ht : IsNm tag) (h : addM1 l x tag = some m) : marksOk m := by
 unfold addM1 at h
 split at h
 ·cases h
 ·cases h
  refine (marksOk_iff _).2 ⟨ascOf_asc _ _, fun k hk => ?_⟩
  rw [ascOf_mem, List.mem_append] at hk
  rcases hk with hk | hk
  ·exact ((marksOk_iff l).1 hl).2 k hk
  ·have w_ := mem_mksOf.1 hk
   obtain ⟨n, hn, rfl⟩ := w_
   exact ⟨T.vars_range hx n hn, ht⟩
noncomputable def addM (s : List Bd) (l : List Mk) (t : Tm) (tag : ByteArray) : Option (List Mk) :=
 if substOk s ∧ t.Ok ∧ marksOk l ∧ IsNm tag then (fit (t.toT.subst (sub (s.map Bd.b)))).bind fun x => addM1 l x tag else none
noncomputable def refMFrom (bs : List B) : List Mk → List Mk → Option (List Mk)
 | [], acc => some acc
 | c :: r, acc => (addM1 acc ((T.var c.var).subst (sub bs)) c.tag).bind fun acc' => refMFrom bs r acc'
noncomputable def refM (s : List Bd) (l : List Mk) : Option (List Mk) := if substOk s ∧ marksOk l then refMFrom (s.map Bd.b) l [] else none
def optMk (P : List Mk → Value → Prop) (o : Option (List Mk)) (v : Value) : Prop := match o with
 | some l => ∃ tv, v = .tuple #[tv, .bool true] ∧ P l tv
 | none => v = .tuple #[.slice none 0 0, .bool false]
end Go.Vx
namespace Go.Vx
open Go.Proofs Classical
def Mk.v (k : Mk) : Value := .agg #[.int .i64 k.var, .string k.tag]
section
variable {μ : Mem}
theorem beforeMark_spec (a b : Mk) : Gives Try.prog 93 [a.v, b.v] μ (.bool (decide (cMk a b < 0))) := by
 have e : decide (cMk a b < 0) = (decide (a.var < b.var) || (decide (a.var = b.var) && Op.bytesLess a.tag.data.toList b.tag.data.toList)) := ltM_eq a b
 rw [e]
 refine Spec.mk Try.func93 (by kernel_rfl) ?_
 intro r0 r1
 refine ifd (fun h => rGv (by simp [h]) rfl) (fun h => ?_)
 refine ifd (fun h2 => ?_) (fun h2 => rGv (by simp [h, h2]) rfl)
 exact rGv (by simp [h2]) rfl
theorem impl_MarksOk_spec {l : List Mk} {base : Option Addr} {cap : Nat} (hsl : Sl μ 2 base l.length (l.map Mk.d)) : Gives Try.prog 43 [.slice base l.length cap] μ (.bool (decide (marksOk l))) := by
 have hn := maxLen_le hsl.max
 refine Spec.mk Try.func43 (by kernel_rfl) ?_
 refine lIn (fun i : Nat => i ≤ l.length ∧ ∀ j k, j < i → l[j]? = some k → mokAt l j k) (fun i => ⟨[(0, .val (.slice base l.length cap)), (5, .val (.slice base l.length cap)), (6, .val (.int .i64 l.length)), (7, .val (.int .i64 i))], [], 0, μ, Mem.nil⟩) (fun i => l.length - i)
  0 ⟨by omega, fun j k hj => by omega⟩ (fun i => ⟨rfl, rfl⟩) ⟨⟨rfl, rfl, rfl, rfl, trivial⟩, trivial, rfl, rfl⟩ ?_
 rintro i ⟨hi, hall⟩
 refine ifd (fun h => ?_) (fun h => ?_)
 rotate_left
 ·obtain rfl : i = l.length := by omega
  exact rGv (isT fun j k hk => hall j k (List.getElem?_eq_some_iff.1 hk).1 hk) rfl
 have w_ := aSo (l := l) (i := i) (by omega)
 obtain ⟨x, hx⟩ := w_
 have w_ := Mk.elem hsl hx
 obtain ⟨ad, p, hel, hr⟩ := w_
 have bad : ¬ mokAt l i x → Value.bool false = .bool (decide (marksOk l)) := fun k => isF fun hv => k (hv i x hx)
 have next : mokAt l i x → ∀ j k, j < i + 1 → l[j]? = some k → mokAt l j k := fun h0 j k hj hk => by
  rcases Nat.lt_or_ge j i with h6 | h6
  ·exact hall j k h6 hk
  ·obtain rfl : j = i := by omega
   rw [hx] at hk; cases hk; exact h0
 refine eIn hel ?_
 intro r
 refine ifd (fun h1 => rGv (bad fun k => by have := k.1.1; omega) rfl) (fun h1 => ?_)
 refine ifd (fun h2 => rGv (bad fun k => by have := k.1.2; omega) rfl) (fun h2 => ?_)
 refine cGv (impl_IsName_spec _ _) ?_
 refine ifnd (fun h => rGv (bad fun k => h k.2.1) rfl) (fun hnm => ?_)
 refine ifd (fun h0 => ?_) (fun h0 => ?_)
 ·have w_ := aSo (l := l) (i := i - 1) (by omega)
  obtain ⟨c, hc⟩ := w_
  have w_ := Mk.elem hsl hc
  obtain ⟨ad2, p2, hel2, _⟩ := w_
  have hprev : mokAt l i x → cMk c x < 0 := fun k => k.2.2 (i - 1) c (by omega) hc
  refine nEq (x := ((i - 1 : Nat) : Int)) (by rw [wrap64 (by omega) (by omega)]; omega) ?_
  refine eIn hel2 ?_
  refine cGv (beforeMark_spec c x) ?_
  refine ifnd (fun h1 => rGv (bad fun k => h1 (hprev k)) rfl) (fun h4 => ?_)
  have hlt : ∀ j c', j + 1 = i → l[j]? = some c' → cMk c' x < 0 := fun j c' hj hc' => by
   have e : j = i - 1 := by omega
   rw [e, hc] at hc'
   cases hc'; exact h4
  refine num64 (by omega) (by omega) ⟨i + 1, ⟨by omega, next ⟨⟨by omega, by omega⟩, hnm, hlt⟩⟩, by omega, ⟨⟨rfl, rfl, rfl, rfl, trivial⟩, trivial, rfl, rfl⟩⟩
 ·have hlt : ∀ j c', j + 1 = i → l[j]? = some c' → cMk c' x < 0 := fun j c' hj _ => by omega
  refine num64 (by omega) (by omega) ⟨i + 1, ⟨by omega, next ⟨⟨by omega, by omega⟩, hnm, hlt⟩⟩, by omega, ⟨⟨rfl, rfl, rfl, rfl, trivial⟩, trivial, rfl, rfl⟩⟩
set_option maxHeartbeats 4000000 in
end
end Go.Vx
namespace Go.Vx
open Go.Proofs Classical
def MkKey (v : Value) : Prop := ∃ m : Mk, GoodM m ∧ v = m.v
theorem Mk.v_inj {a b : Mk} (h : a.v = b.v) : a = b := by
 cases a; cases b
 simp only [Mk.v, Value.agg.injEq] at h
 simpa using h
theorem mk_law : WideMaps.KeyLaw Try.prog 75 := deep_law (m := 3) (by decide) (by kernel_rfl) (by kernel_rfl) (by kernel_rfl)
theorem mk_cells : Try.prog.cellsOf 75 = 2 := by kernel_rfl
theorem mk_cells1 : Try.prog.cellsOf 3 = 1 := by kernel_rfl
theorem mk_cells2 : Try.prog.cellsOf 9 = 1 := by kernel_rfl
theorem mk_ktype : Try.prog.keyType 75 = true := by kernel_rfl
theorem mk_size : Nat.ble 1 Try.prog.types.size = true := by kernel_rfl
theorem mk_keyOf {m : Mk} (h : GoodM m) : ∃ l, keyOf Try.prog 75 m.v = some l := by
 have hu := Try.underlying75
 have hi := Try.underlying3
 have hs := Try.underlying9
 have h2 : m.v.formed Try.prog 75 = true := by
  simp only [Mk.v, Value.formed, hu, mk_cells]
  rfl
 have hk : ∃ L, Try.prog.keyLits (Try.prog.types.size + 1) 75 m.v.cells.toList = some L := by
  obtain ⟨n, hn⟩ : ∃ n, Try.prog.types.size + 1 = n + 2 := ⟨Try.prog.types.size - 1, by have := Nat.le_of_ble_eq_true mk_size; omega⟩
  rw [hn]
  have hw : (Lit.int .i64 m.var).wf = true := by
   have := h.1
   simp [Lit.wf, IntKind.min, IntKind.max]
   exact ⟨decide_eq_true (show (-9223372036854775808 : Int) ≤ m.var by omega), decide_eq_true (show m.var ≤ (9223372036854775807 : Int) by omega)⟩
  have ht : m.tag.size ≤ maxLen := Nat.le_trans h.2.2.1 (by decide)
  simp only [Program.keyLits, hu, mk_cells, Mk.v, Value.cells]
  simp [hw, ht, mk_cells1, mk_cells2, hi, hs]
 obtain ⟨L, hL⟩ := hk
 refine ⟨.string (keyBytes L), ?_⟩
 unfold keyOf
 rw [hu]
 dsimp only
 rw [mk_ktype, h2, hL]
 rfl
end Go.Vx
namespace Go.Vx
open Go.Proofs Classical
open Go.Sort
noncomputable instance : Inhabited Mk := ⟨⟨0, ⟨#[]⟩⟩⟩
theorem slMark : SlTy 68 75 Try.t68 Try.t75 25 := ⟨by kernel_rfl, by kernel_rfl, by kernel_rfl, by kernel_rfl, fun _ => by kernel_rfl, by kernel_rfl⟩
theorem swo_ltM : SWO ltM := cMk_ord.swo
theorem mks_els (l : List Mk) : ∀ y ∈ l.map Mk.v, (vcells y).length = 2 ∧ ∀ u ∈ vcells y, u.oneCell' = true := fun y hy => by
 have w_ := List.mem_map.1 hy
 obtain ⟨k, _, rfl⟩ := w_
 refine ⟨rfl, fun u hu => ?_⟩
 simp only [Mk.v, vcells, List.mem_cons, List.not_mem_nil, or_false] at hu
 rcases hu with rfl | rfl <;> rfl
theorem mks_own : ∀ l : List Mk, OwnRows 2 (l.map Mk.d) (l.map Mk.v) Mem.nil
 | [] => OwnRows.nil 2
 | k :: l => by
  have w_ := mks_own l
  obtain ⟨h1, h2, h3⟩ := w_
  refine ⟨?_, fun x hx => ?_, by simp⟩
  ·simp only [List.map_cons, List.flatMap_cons]
   exact OwnS.cons (Parts.nil_left _) (by rw [Mk.d_eq]; exact OwnS.int (OwnS.str OwnS.nil)) h1
  ·simp only [List.map_cons, List.mem_cons] at hx
   rcases hx with rfl | hx
   ·exact Mk.d_n k
   ·exact h2 x hx
theorem keys_marks {l : List (Value × Value)} (h : MapOk MkKey l) : ∃ ks : List Mk, l.map Prod.fst = ks.map Mk.v ∧ ks.Nodup := by
 have h1 : ∀ (l : List (Value × Value)), (∀ p ∈ l, MkKey p.1) → ∃ ks : List Mk, l.map Prod.fst = ks.map Mk.v := fun l => by
  induction l with
  | nil => intro _; exact ⟨[], rfl⟩
  | cons p l ih =>
   intro h
   have w_ := ih fun q hq => h q (by simp [hq])
   obtain ⟨ks, hks⟩ := w_
   have w_ := h p (by simp)
   obtain ⟨n, _, hn⟩ := w_
   exact ⟨n :: ks, by rw [List.map_cons, hks, hn]; rfl⟩
 have w_ := h1 l h.keys
 obtain ⟨ks, hks⟩ := w_
 refine ⟨ks, hks, ?_⟩
 have hn := h.nodup
 rw [hks] at hn
 exact List.Pairwise.of_map (S := fun a b => a ≠ b) _ (fun a b hab e => hab (by rw [e])) hn
theorem mget_marks {l : List (Value × Value)} {ks : List Mk} (h : l.map Prod.fst = ks.map Mk.v) (n : Mk) : (mget l n.v).isSome ↔ n ∈ ks := by
 have e : n ∈ ks ↔ n.v ∈ l.map Prod.fst := by
  rw [h, List.mem_map]
  exact ⟨fun k => ⟨n, k, rfl⟩, fun ⟨m, k, e⟩ => by rw [← Mk.v_inj e]; exact k⟩
 rw [e]
 clear e h
 induction l with
 | nil => simp [mget]
 | cons p l ih =>
  obtain ⟨a, v⟩ := p
  rw [mget]
  by_cases h : a = n.v
  ·rw [if_pos h]; simp [h]
  ·rw [if_neg h]
   refine ih.trans ?_
   simp only [List.map_cons, List.mem_cons]
   exact ⟨.inr, fun k => k.elim (fun e => absurd e.symm h) id⟩
section
variable {α : Type} [Inhabited α]
theorem getG_at {ks : List α} {j : Nat} (h : j < ks.length) : ks[j]? = some (ks.getD j default) := by
 rw [List.getD_eq_getElem?_getD, List.getElem?_eq_getElem h]; rfl
theorem pickedG {ks : List α} (hnd : ks.Nodup) {seen : List Nat} (hsn : seen.Nodup) (hsl : ∀ j ∈ seen, j < ks.length) : (seen.map fun j => ks.getD j default).Nodup := by
 rw [List.nodup_iff_pairwise_ne, List.pairwise_map]
 rw [List.nodup_iff_pairwise_ne] at hsn
 refine hsn.imp_of_mem fun {a b} ha hb hab e => hab ?_
 have h1 := getG_at (hsl a ha)
 have h2 := getG_at (hsl b hb)
 rw [← e] at h2
 exact (List.getElem?_inj (hsl a ha) hnd).1 (h1.trans h2.symm)
theorem pickedG_mem {ks : List α} {seen : List Nat} (hsl : ∀ j ∈ seen, j < ks.length) (hall : ∀ j, j < ks.length → j ∈ seen) (n : α) : n ∈ (seen.map fun j => ks.getD j default) ↔ n ∈ ks := by
 rw [List.mem_map]
 constructor
 ·rintro ⟨j, hj, rfl⟩
  exact List.mem_of_getElem? (getG_at (hsl j hj))
 ·intro h
  have w_ := List.mem_iff_getElem?.1 h
  obtain ⟨j, hj⟩ := w_
  have hjl := (List.getElem?_eq_some_iff.1 hj).1
  refine ⟨j, hall j hjl, ?_⟩
  rw [getG_at hjl] at hj
  exact Option.some.inj hj
end
section
variable {μ : Mem}
theorem mks_fresh {μ1 h : Mem} {r c : Nat} {ty : TypeId} {l : List Mk} (hb : RowO h r c ty 2 (l.map Mk.v)) (hap : Apart μ1 h) (hle : μ.Le μ1) (hn : l.length ≤ 1000000000000) : Fresh μ (μ1.join h) (.sl 2 (l.map Mk.d)) (.slice (some ⟨r, 0, none⟩) l.length c) := by
 obtain ⟨cs, hcell, hlen0, hcap, hone, hcs, htake⟩ := hb
 have hb2 : μ1 r = none := by
  cases e : μ1 r with
  | none => rfl
  | some o => have := hap r (by simp [e]); rw [hcell] at this; cases this
 have := Fresh.ofRow (μ := μ) (μ1 := μ1) (μ' := μ1.join h) (b := some r) (cap := c) (mks_own l) (fun _ _ h => nomatch h) (fun _ h => absurd rfl h) hle (Mem.le_join _ _) (fun r' e => by cases e; exact hb2)
  ⟨hlen0, hone, _, _, by rw [Mem.join_get, hb2]; exact hcell, by simpa using hcs, by simpa using htake⟩ (Nat.le_trans (m := 1000000000000) (by simpa using hn) (by decide))
 rwa [List.length_map] at this
def MksInv (rm rt : Nat) (tag : ByteArray) (s : List Mk) (h : Mem) : Prop := ∃ r l, h rm = some (.cells #[.map (some r)] 112 (0, 0)) ∧ h rt = some (.cells #[.string tag] 9 (0, 0)) ∧ h r = some (mapO l) ∧ MapOk MkKey l ∧ ∀ m : Mk, (mget l m.v).isSome ↔ m ∈ s
theorem MksInv.put {rm rt r : Nat} {tag : ByteArray} {s : List Mk} {h : Mem} {l : List (Value × Value)} (h1 : h rm = some (.cells #[.map (some r)] 112 (0, 0))) (h2 : h rt = some (.cells #[.string tag] 9 (0, 0))) (h3 : h r = some (mapO l)) (hk : MapOk MkKey l) (hg : ∀ m : Mk, (mget l m.v).isSome ↔ m ∈ s) {n : Mk} (hn : GoodM n) (v : Value) :
  MksInv rm rt tag (s ++ [n]) (h.set r (mapO (mset l n.v v))) := by
 have e1 : rm ≠ r := ne_of_obj h1 h3 (by simp [mapO])
 have e2 : rt ≠ r := ne_of_obj h2 h3 (by simp [mapO])
 refine ⟨r, _, (Mem.set_ne e1).trans h1, (Mem.set_ne e2).trans h2, Mem.set_at _ _ _, hk.set ⟨n, hn, rfl⟩ v, fun m => ?_⟩
 rw [mget_mset, List.mem_append, List.mem_singleton]
 by_cases e : m = n
 ·simp [e]
 ·rw [if_neg fun k => e (Mk.v_inj k), hg]; simp [e]
theorem MkKey.ok {ti : TI} {fs : List (Nat × TypeId)} (e : ti.kind = .strct fs) {l : List (Value × Value)} (h : MapOk MkKey l) : MapOk (keyOk Try.prog 75 ti) l := h.weaken fun v hv => by
 obtain ⟨m, hm, rfl⟩ := hv
 unfold keyOk
 rw [e]
 exact ⟨mk_law, mk_keyOf hm⟩
theorem MkKey.one {ti : TI} {fs : List (Nat × TypeId)} (e : ti.kind = .strct fs) {m : Mk} (h : GoodM m) : keyOk Try.prog 75 ti m.v := by
 unfold keyOk
 rw [e]
 exact ⟨mk_law, mk_keyOf h⟩
theorem AddAbsence1_spec {rm rt : Nat} {tag : ByteArray} {s : List Mk} {h : Mem} {n : Int} (hn : GoodM ⟨n, tag⟩) (H : MksInv rm rt tag s h) : SpecH Try.prog 91 [.int .i64 n, .pointer (some ⟨rm, 0, none⟩), .pointer (some ⟨rt, 0, none⟩)] μ h fun r μ' h' => r = .tuple #[] ∧ μ' = μ ∧ MksInv rm rt tag (s ++ [⟨n, tag⟩]) h' := by
 obtain ⟨r, l, h1, h2, h3, hk, hg⟩ := H
 refine SpecH.mk [] Try.func91 (by kernel_rfl) ?_
 refine oIn [.map (some r)] rfl (box_at h1) ?_
 refine oIn [.string tag] rfl (box_at h2) ?_
 refine upd_intro l h3 (MkKey.ok rfl hk) (MkKey.one rfl hn) ?_
 exact rPl ⟨rfl, rfl, MksInv.put h1 h2 h3 hk hg hn _⟩
end
section
variable {μ h0 : Mem} {r : Nat} {ty : TypeId} {rest : List Value}
theorem AddAbsence2_spec {rs n cap i j : Nat} {d : Array Mk} (hs : h0 rs = some (.cells #[.slice (some ⟨r, 0, none⟩) n cap] 68 (0, 0))) (hne : rs ≠ r) (hn : d.size = n) (hi : i < n) (hj : j < n) :
  SpecH Try.prog 92 [.int .i64 i, .int .i64 j, .pointer (some ⟨rs, 0, none⟩)] μ (RowV h0 r ty rest (d.map Mk.v)) fun v μ' h' => v = .bool (ltM d[i]! d[j]!) ∧ μ' = μ ∧ h' = RowV h0 r ty rest (d.map Mk.v) := by
 have hE : Els 2 (d.map Mk.v) := fun x hx => mks_els d.toList x (by simpa using hx)
 have hrs : RowV h0 r ty rest (d.map Mk.v) rs = some (.cells #[.slice (some ⟨r, 0, none⟩) n cap] 68 (0, 0)) := (Mem.set_ne hne).trans hs
 have rd : ∀ k, k < n → ∀ c v, [.int .i64 d[k]!.var, .string d[k]!.tag][c]? = some v → (RowV h0 r ty rest (d.map Mk.v)).cell ((⟨r, k * 2, none⟩ : Addr).add c) = some v := fun k hk c v hv => by
  rw [Addr.add_lit']
  refine RowV.cell hE (by simpa [hn] using hk) ?_
  rw [map_get (by omega)]
  exact hv
 refine SpecH.mk [] Try.func92 (by kernel_rfl) ?_
 refine oIn [.slice (some ⟨r, 0, none⟩) n cap] rfl (box_at hrs) ?_
 refine idxV i rfl hi ?_
 refine oIn [.int .i64 d[i]!.var, .string d[i]!.tag] rfl (rd i hi) ?_
 refine oIn [.slice (some ⟨r, 0, none⟩) n cap] rfl (box_at hrs) ?_
 refine idxV j rfl hj ?_
 refine oIn [.int .i64 d[j]!.var, .string d[j]!.tag] rfl (rd j hj) ?_
 refine cGv (beforeMark_spec d[i]! d[j]!) ?_
 exact rPl ⟨rfl, rfl, rfl⟩
end
end Go.Vx
namespace Go.Vx
open Go.Proofs Classical
open Go.Sort
theorem Apart.at_none {μ h : Mem} (hap : Apart μ h) {r : Nat} {o : Obj} (e : h r = some o) : μ r = none := by
 cases e1 : μ r with
 | none => rfl
 | some o => have := hap r (by simp [e1]); rw [e] at this; cases this
theorem foldl_mks (tag : ByteArray) : ∀ (l : List Int) (s : List Mk), l.foldl (fun s n => s ++ [⟨n, tag⟩]) s = s ++ l.map fun n => ⟨n, tag⟩
 | [], s => by simp
 | a :: l, s => by rw [List.foldl_cons, foldl_mks tag l]; simp
section
variable {μ : Mem}
set_option maxHeartbeats 8000000 in
theorem impl_AddAbsence_spec {s : List Bd} {l : List Mk} {t : Tm} {v : Value} {tag : ByteArray} {base base2 : Option Addr} {cap cap2 : Nat} (hs : Sl μ 5 base s.length (s.map Bd.d)) (hl : RepV μ (.sl 2 (l.map Mk.d)) (.slice base2 l.length cap2)) (ht : RepV μ t.d v) (hn : l.length ≤ 100000000000) :
  Spec Try.prog 41 [.slice base s.length cap, .slice base2 l.length cap2, v, .string tag] μ fun r μ' => optMk (fun y tv => Fresh μ μ' (.sl 2 (y.map Mk.d)) tv) (addM s l t tag) r := by
 have w_ := Tm.invV ht
 obtain ⟨pt, rfl⟩ := w_
 have hl0 := hl
 have w_ := Rep.sl hl
 obtain ⟨bq, cq, eq1, hslq⟩ := w_
 rw [List.length_map] at hslq eq1
 have w_ := Value.slice.inj eq1
 obtain ⟨rfl, _, rfl⟩ := w_
 refine Spec.mkO [7, 12, 48, 15, 61] Try.func41 (by kernel_rfl) ?_
 intro r6 r7 hm7 ho7
 generalize hh : Mem.set _ r7 _ = H7
 have hC7 : H7 r7 = some (.cells #[.string tag] 9 (0, 0)) := by rw [← hh]; exact Mem.set_at _ _ _
 have hap7 : Apart μ H7 := by rw [← hh]; exact (apart_nil μ).set hm7
 clear hh hm7 ho7
 refine cGv (impl_SubstOk_spec hs) ?_
 refine ifnd (fun h => rPl (by rw [addM, if_neg fun k => h k.1]; rfl)) (fun h1 => ?_)
 refine cGv (impl_TermOk_spec t ht) ?_
 refine ifnd (fun h => rPl (by rw [addM, if_neg fun k => h k.2.1]; rfl)) (fun h2 => ?_)
 refine cGv (impl_MarksOk_spec hslq) ?_
 refine ifnd (fun h => rPl (by rw [addM, if_neg fun k => h k.2.2.1]; rfl)) (fun hk => ?_)
 refine oIn [.string tag] rfl (box_at hC7) ?_
 refine cGv (impl_IsName_spec _ _) ?_
 refine ifnd (fun h => rPl (by rw [addM, if_neg fun k => h k.2.2.2]; rfl)) (fun hnm => ?_)
 have hadd : addM s l t tag = (fit (t.toT.subst (sub (s.map Bd.b)))).bind fun x => addM1 l x tag := by rw [addM, if_pos ⟨h1, h2, hk, hnm⟩]
 rw [hadd]
 have hxg := fun x => appl_good (x := x) h1 h2
 clear hadd
 obtain ⟨x0, _, rfl⟩ := h2.lift
 obtain ⟨bs, rfl, hbs⟩ := h1.subst
 rw [List.length_map] at hs ⊢
 rw [T.toT_tm, B.map_b] at hxg ⊢
 have hlen := hbs.vals.len
 refine cDa hap7 (put_spec x0 hbs.vals.srt (by omega) hbs.vals.tok hs ht) fun v1 μ1 hle1 hap1 hR => ?_
 cases hf : fit (x0.subst (sub bs)) with
 | none =>
  rw [hf] at hR
  obtain rfl := hR
  intro r10
  refine iIn (fun _ => ?_) (fun h => nomatch h)
  exact rPl rfl
 | some x =>
  rw [hf] at hR
  rw [Option.bind_some]
  obtain ⟨tv, rfl, htv⟩ := hR
  have hxok := hxg x hf
  have hxs : x.vars.length ≤ 5000 := by
   have h5 := (fit_some.1 hf).1
   have h6 := (fit_some.1 hf).2
   have := T.vars_size x
   rw [h6] at h5
   omega
  have htr := htv.rep
  have w_ := T.inv htr
  obtain ⟨qb, qc, rfl, _⟩ := w_
  intro r10
  refine iIn (fun h => nomatch h) (fun _ => ?_)
  refine oIn [.string tag] rfl (box_at hC7) ?_
  refine cGv (hasSymbol_spec tag x htr) ?_
  refine ifd (fun h => rPl (by rw [addM1, if_pos h]; rfl)) (fun hns => ?_)
  have hfin : addM1 l x tag = some (ascOf cMk_ord (l ++ mksOf x tag)) := if_neg hns
  rw [hfin]
  intro r48 hm48 ho48 r12 hm12 ho12
  refine sIn [.map none] 112 (Mem.set_at _ _ _) rfl (Nat.le_refl _) ?_
  dsimp only at hm48 ho48 hm12 ho12
  have n1 : r48 ≠ r12 := fun e => by subst e; simp [Mem.set_get] at ho12
  have n2 : r7 ≠ r48 := ne_of_none hC7 ho48
  have n3 : r7 ≠ r12 := fun e => by
   subst e
   rw [Mem.set_ne n2, hC7] at ho12; cases ho12
  generalize hh : Mem.set (Mem.set _ r12 _) r12 _ = h0
  have H0 : MksInv r12 r7 tag [] h0 := by
   subst hh
   refine ⟨r48, [], ?_, ?_, ?_, MapOk.nil, fun n => by simp [mget]⟩
   ·rw [Mem.set_at]; rfl
   ·dsimp only; rw [Mem.set_ne n3, Mem.set_ne n3, Mem.set_ne n2]; exact hC7
   ·dsimp only; rw [Mem.set_ne n1, Mem.set_ne n1, Mem.set_at]
  have hapH : Apart μ1 h0 := by
   subst hh
   exact ((hap1.set hm48).set hm12).set hm12
  clear hh hm48 ho48 hm12 ho12 n1 n2 n3 hC7
  refine lIn (fun q : Nat × Mem => q.1 ≤ l.length ∧ Apart μ1 q.2 ∧ MksInv r12 r7 tag (l.take q.1) q.2)
   (fun (i, h) => ⟨[(7, .val (.pointer (some ⟨r7, 0, none⟩))), (10, .loc 1 r10 0), (12, .val (.pointer (some ⟨r12, 0, none⟩))), (49, .val (.slice base2 l.length cap2)), (50, .val (.int .i64 l.length)), (51, .val (.int .i64 i))], [(1, some (.cells r10 [.val (.int .i64 x.tm.kind), .val (.int .i64 x.tm.num), .val (.string x.tm.name), .val (.slice qb x.args.length qc)] 27))], 2, μ1, h⟩) (fun q => l.length - q.1)
   (0, h0) ⟨Nat.zero_le _, hapH, by simpa using H0⟩ (fun (_, _) => ⟨rfl, rfl⟩) ⟨⟨rfl, rfl, rfl, rfl, rfl, rfl, trivial⟩, ⟨rfl, trivial⟩, rfl, rfl⟩ ?_
  clear hapH H0
  rintro ⟨i, h⟩ ⟨hi, hap, hJ⟩
  dsimp only at hi hap hJ
  have hgood := ((marksOk_iff l).1 hk).2
  refine ifd (fun hlt => ?_) (fun hlt => ?_)
  ·have w_ := aSo (l := l) (i := i) (by omega)
   obtain ⟨c, hc⟩ := w_
   have w_ := Mk.elem (hslq.mono hle1) hc
   obtain ⟨ad, p, hel, _⟩ := w_
   obtain ⟨rr, ll, g1, g2, g3, g4, g5⟩ := hJ
   refine eIn hel ?_
   intro r14
   refine oIn [.map (some rr)] rfl (box_at g1) ?_
   refine upd_intro ll g3 (MkKey.ok rfl g4) (MkKey.one (m := c) rfl (hgood c (mAt hc))) ?_
   refine num64 (by omega) (by omega) ⟨(i + 1, _), ⟨by dsimp only; omega, hap.set (hap.at_none g3), ?_⟩, by dsimp only; omega, ⟨⟨rfl, rfl, rfl, rfl, rfl, rfl, trivial⟩, ⟨rfl, trivial⟩, rfl, rfl⟩⟩
   dsimp only
   rw [List.take_add_one, hc, Option.toList_some]
   exact MksInv.put g1 g2 g3 g4 g5 (hgood c (mAt hc)) _
  obtain rfl : i = l.length := by omega
  rw [List.take_length] at hJ
  refine cOw (eachVar_rel (MksInv r12 r7 tag) (fun s n => s ++ [⟨n, tag⟩]) (fun _ n => GoodM ⟨n, tag⟩) (fun s h n hq hj => AddAbsence1_spec hq hj) x l h htr (fun pre n post e => ⟨T.vars_range hxok n (by rw [e]; simp), hnm⟩) hJ) fun v μ2 h3 hle2 hap3 hR => ?_
  obtain ⟨rfl, e2, hJ3⟩ := hR
  obtain rfl := e2.symm
  rw [foldl_mks] at hJ3
  obtain ⟨rr, ll, g1, g2, g3, g4, g5⟩ := hJ3
  have w_ := keys_marks g4
  obtain ⟨ks, hks, hnd⟩ := w_
  have hkm : ∀ m, m ∈ ks ↔ m ∈ l ++ mksOf x tag := fun m => (mget_marks hks m).symm.trans (g5 m)
  have hkl : ks.length = ll.length := by
   have := congrArg List.length hks
   simpa using this.symm
  have hll : ll.length ≤ 100000005000 := by
   have hp : ks.Perm (ascOf cMk_ord (l ++ mksOf x tag)) := (List.perm_ext_iff_of_nodup hnd ((ascOf_asc cMk_ord _).nodup cMk_ord)).2 fun m => by rw [hkm, ascOf_mem]
   have h7 := hp.length_eq
   have h8 := ascOf_len cMk_ord (l ++ mksOf x tag)
   have h9 : (mksOf x tag).length = x.vars.length := by simp [mksOf]
   rw [List.length_append] at h8
   omega
  clear hJ hap
  intro r61 hm61 ho61 r15 hm15 ho15
  refine sIn [.slice none 0 0] 68 (Mem.set_at _ _ _) rfl (Nat.le_refl _) ?_
  dsimp only at hm61 ho61 hm15 ho15
  have n1 : r61 ≠ r15 := fun e => by subst e; simp [Mem.set_get] at ho15
  have n2 : r12 ≠ r61 := ne_of_none g1 ho61
  have n3 : rr ≠ r61 := ne_of_none g3 ho61
  have n4 : r12 ≠ r15 := fun e => by subst e; rw [Mem.set_ne n2, g1] at ho15; cases ho15
  have n5 : rr ≠ r15 := fun e => by subst e; rw [Mem.set_ne n3, g3] at ho15; cases ho15
  generalize hh : Mem.set (Mem.set _ r15 _) r15 _ = h5
  have hC : h5 r15 = some (.cells #[.slice (some ⟨r61, 0, none⟩) 0 0] 68 (0, 0)) := by subst hh; exact Mem.set_at _ _ _
  have hB : RowO h5 r61 0 75 2 (([] : List Mk).map Mk.v) := by
   subst hh
   refine ⟨[], by dsimp only; rw [Mem.set_ne n1, Mem.set_ne n1]; exact Mem.set_at _ _ _, by simp, by simp, by simp, rfl, rfl⟩
  have hM : h5 rr = some (mapO ll) := by subst hh; dsimp only; rw [Mem.set_ne n5, Mem.set_ne n5, Mem.set_ne n3]; exact g3
  have hM2 : h5 r12 = some (.cells #[.map (some rr)] 112 (0, 0)) := by subst hh; dsimp only; rw [Mem.set_ne n4, Mem.set_ne n4, Mem.set_ne n2]; exact g1
  have hA : Apart μ1 h5 := by subst hh; exact ((hap3.set hm61).set hm15).set hm15
  clear hh hm61 ho61 hm15 ho15 n1 n2 n3 n4 n5 g1 g2 g3 g4 g5 hap3
  refine oIn [.map (some rr)] rfl (box_at hM2) ?_
  refine mlen_intro ll hM ?_
  intro ri hmi hoi
  dsimp only at hmi hoi
  have n1 : r15 ≠ ri := ne_of_none hC hoi
  have n2 : rr ≠ ri := ne_of_none hM hoi
  have n3 : r61 ≠ ri := fun e => by
   obtain ⟨cs, hcell, _⟩ := hB
   subst e; rw [hoi] at hcell; cases hcell
  refine lIn (fun q : List Nat × Nat × Nat × Mem => q.1.Nodup ∧ (∀ j ∈ q.1, j < ll.length) ∧ Apart μ1 q.2.2.2 ∧ q.2.2.2 r15 = some (.cells #[.slice (some ⟨q.2.1, 0, none⟩) q.1.length q.2.2.1] 68 (0, 0)) ∧ RowO q.2.2.2 q.2.1 q.2.2.1 75 2 ((q.1.map fun j => ks.getD j default).map Mk.v) ∧ q.2.2.2 ri = some (iterO rr ll.length q.1 ll.length) ∧ q.2.2.2 rr = some (mapO ll))
   (fun (_, _, _, h) => ⟨[(15, .val (.pointer (some ⟨r15, 0, none⟩))), (63, .val (.pointer (some ⟨ri, 0, none⟩)))], [], 2, μ1, h⟩) (fun q => ll.length - q.1.length)
   ([], r61, 0, Mem.set h5 ri (iterO rr ll.length [] ll.length)) ⟨by simp, by simp, hA.set hmi, (Mem.set_ne n1).trans hC, hB.set_ne n3, Mem.set_at _ _ _, (Mem.set_ne n2).trans hM⟩ (fun (_, _, _, _) => ⟨rfl, rfl⟩) ⟨⟨rfl, rfl, trivial⟩, trivial, rfl, rfl⟩ ?_
  clear hC hB hM hM2 hA n1 n2 n3 hmi hoi
  rintro ⟨seen, b, c, h⟩ ⟨hsn, hsl, hA, hC, hB, hI, hM⟩
  dsimp only at hsn hsl hA hC hB hI hM
  have hslen := nodup_len hsn hsl
  have n1 : r15 ≠ ri := ne_of_obj hC hI (by simp [iterO])
  have n2 : rr ≠ ri := ne_of_obj hM hI (by simp [iterO, mapO])
  have n4 : r15 ≠ rr := ne_of_obj hC hM (by simp [mapO])
  obtain ⟨n3, n5, n6⟩ : b ≠ ri ∧ b ≠ r15 ∧ b ≠ rr := by
   obtain ⟨cs, hcell, _⟩ := hB
   exact ⟨ne_of_obj hcell hI (by simp [iterO]), ne_of_obj hcell hC (by simp), ne_of_obj hcell hM (by simp [mapO])⟩
  refine next_intro rr seen ll.length ll hI hM (Nat.le_refl _) (fun hall => ?_) (fun j k v hj hns => ?_)
  rotate_left
  ·have hjl := (List.getElem?_eq_some_iff.1 hj).1
   obtain ⟨q, hq⟩ : ∃ q, q = ks.getD j default := ⟨_, rfl⟩
   have hkj : k = q.v := by
    have h1 : (ll.map Prod.fst)[j]? = some k := by simp [hj]
    rw [hks, List.getElem?_map] at h1
    have h2 : j < ks.length := by omega
    rw [getG_at h2, ← hq] at h1
    simp only [Option.map_some, Option.some.injEq] at h1
    exact h1.symm
   subst hkj
   refine iIn (fun _ => ?_) (fun h => nomatch h)
   refine ent_intro rr ll.length seen j ll _ v (Mem.set_at _ _ _) ((Mem.set_ne n2).trans hM) hj ?_
   intro r16
   refine oIn [.slice (some ⟨b, 0, none⟩) seen.length c] rfl (box_at ((Mem.set_ne n1).trans hC)) ?_
   intro r70
   refine app_intro ((seen.map fun j => ks.getD j default).map Mk.v) (by simp) (hB.set_ne n3) ?_ ?_ fun b2 c2 o2 hrow2 hor2 => ?_
   ·show (seen.length + 1) * 24 ≤ _; omega
   ·exact Nat.le_trans (m := 2000000000000) (show seen.length + 1 ≤ _ by omega) (by decide)
   have hsl2 : ∀ i ∈ seen ++ [j], i < ll.length := fun i hi => by
    rcases List.mem_append.1 hi with hi | hi
    ·exact hsl i hi
    ·rw [List.mem_singleton] at hi; subst hi; exact hjl
   have hsn2 : (seen ++ [j]).Nodup := by
    rw [List.nodup_append]
    refine ⟨hsn, by simp, fun a ha b hb e => ?_⟩
    rw [List.mem_singleton] at hb
    subst hb; subst e; exact hns ha
   have hs3 := nodup_len hsn2 hsl2
   rw [List.length_append, List.length_singleton] at hs3
   have m15 : r15 ≠ b2 := fun e => by
    rcases hor2 with e2 | ⟨e2, _⟩
    ·exact n5 (e2.symm.trans e.symm)
    ·have e2 : (Mem.set h ri _) b2 = none := e2
     rw [← e, Mem.set_ne n1, hC] at e2; cases e2
   have mi : ri ≠ b2 := fun e => by
    rcases hor2 with e2 | ⟨e2, _⟩
    ·exact n3 (e2.symm.trans e.symm)
    ·have e2 : (Mem.set h ri _) b2 = none := e2
     rw [← e, Mem.set_at] at e2; cases e2
   have mr : rr ≠ b2 := fun e => by
    rcases hor2 with e2 | ⟨e2, _⟩
    ·exact n6 (e2.symm.trans e.symm)
    ·have e2 : (Mem.set h ri _) b2 = none := e2
     rw [← e, Mem.set_ne n2, hM] at e2; cases e2
   have hb2 : μ1 b2 = none := by
    rcases hor2 with e2 | ⟨_, e2⟩
    ·obtain ⟨cs, hcell, _⟩ := hB
     rw [e2]; exact hA.at_none hcell
    ·exact e2
   refine sIn [.slice (some ⟨b, 0, none⟩) seen.length c] 68 ((Mem.set_ne m15).trans ((Mem.set_ne n1).trans hC)) rfl (Nat.le_refl _) ?_
   refine ⟨(seen ++ [j], b2, c2, _), ⟨hsn2, hsl2, ((hA.set (hA.at_none hI)).set hb2).set (hA.at_none hC), ?_, ?_, ?_, ?_⟩, by dsimp only; rw [List.length_append, List.length_singleton]; omega, ⟨⟨rfl, rfl, trivial⟩, trivial, rfl, rfl⟩⟩
   ·dsimp only
    rw [List.length_append, List.length_singleton]
    exact Mem.set_at _ _ _
   ·dsimp only
    rw [List.map_append, List.map_append]
    refine RowO.set_ne ?_ m15.symm
    rw [List.map_singleton, ← hq]
    exact hrow2
   ·exact (Mem.set_ne n1.symm).trans ((Mem.set_ne mi).trans (Mem.set_at _ _ _))
   ·exact (Mem.set_ne n4.symm).trans ((Mem.set_ne mr).trans ((Mem.set_ne n2).trans hM))
  refine iIn (fun h => nomatch h) (fun _ => ?_)
  have hp := pickedG hnd hsn (by rw [hkl]; exact hsl)
  have hpm := pickedG_mem (by rw [hkl]; exact hsl) (by rw [hkl]; exact hall) (ks := ks) (seen := seen)
  have hDs : (seen.map (fun j => ks.getD j default)).length = seen.length := by simp
  generalize seen.map (fun j => ks.getD j default) = D at *
  rw [← hDs] at hC
  have hD6 : D.length ≤ 1000000000000 := by omega
  obtain ⟨cs, hcell, hlen0, hcap0, hone, hcs, htake⟩ := hB
  obtain ⟨rest, rfl⟩ : ∃ rest, cs = (D.map Mk.v).flatMap vcells ++ rest := by
   refine ⟨cs.drop ((D.map Mk.v).length * 2), ?_⟩
   conv => lhs; rw [← List.take_append_drop ((D.map Mk.v).length * 2) cs, htake]
  obtain ⟨h0, hh0, hh1, hsplit⟩ : ∃ h0 : Mem, h0 b = none ∧ h0 r15 = h r15 ∧ h = RowV h0 b 75 rest (D.toArray.map Mk.v) := by
   refine ⟨fun q => if q = b then none else h q, if_pos rfl, if_neg n5.symm, funext fun q => ?_⟩
   rw [RowV, Mem.set_get]
   by_cases e : q = b
   ·subst e; rw [if_pos rfl, hcell]; simp
   ·rw [if_neg e, if_neg e]
  rw [hC] at hh1
  have hC4 : RowV h0 b 75 rest (D.toArray.map Mk.v) r15 = some (.cells #[.slice (some ⟨b, 0, none⟩) D.length c] 68 (0, 0)) := (Mem.set_ne n5.symm).trans hh1
  clear hcell
  subst hsplit
  refine oIn [.slice (some ⟨b, 0, none⟩) D.length c] rfl (box_at hC4) ?_
  have hsz : D.toArray.size = D.length := by simp
  have hE : Els 2 (D.toArray.map Mk.v) := fun z hz => mks_els D z (by simpa using hz)
  refine cOw (SortSlice_spec (lb := [.pointer (some ⟨r15, 0, none⟩)]) (enc := Mk.v) slMark (ttok.get rfl) (fun h => nomatch h) hE hsz (by omega) swo_ltM fun {μ' d i j} _ hV hi hj => AddAbsence2_spec hh1 n5.symm (hV.1.trans hsz) hi hj) fun v5 μ2 h2' hle2 hap2 hR5 => ?_
  obtain ⟨rfl, d', p1, p2, rfl⟩ := hR5
  have hC5 : RowV h0 b 75 rest (d'.map Mk.v) r15 = some (.cells #[.slice (some ⟨b, 0, none⟩) D.length c] 68 (0, 0)) := (Mem.set_ne n5.symm).trans hh1
  refine oIn [.slice (some ⟨b, 0, none⟩) D.length c] rfl (box_at hC5) ?_
  have hds : d'.size = D.length := p1.1.trans hsz
  have hperm : d'.toList.Perm D := permIn_list hsz p1
  have hdn : d'.toList.Nodup := hperm.nodup_iff.2 hp
  have hS : d'.toList = ascOf cMk_ord (l ++ mksOf x tag) := by
   refine ascOf_eq cMk_ord ?_ fun m => hperm.mem_iff.trans ((hpm m).trans (hkm m))
   rw [Asc3, List.pairwise_iff_getElem]
   intro a b' ha hb' hab
   rw [List.nodup_iff_pairwise_ne, List.pairwise_iff_getElem] at hdn
   have hne := hdn a b' ha hb' hab
   have ha : a < d'.size := by simpa using ha
   have hb' : b' < d'.size := by simpa using hb'
   have := p2 a b' (Nat.zero_le _) hab (by omega)
   rw [getElem!_pos d' a (by omega), getElem!_pos d' b' (by omega)] at this
   simp only [ltM, decide_eq_false_iff_not] at this
   simp only [Array.getElem_toList] at hne ⊢
   exact cMk_ord.ge_pos this fun e => hne ((cMk_ord.zero _ _).1 e).symm
  rw [← hS]
  refine ret_own _ Mem.nil (Parts.nil_right _) ?_
  refine ⟨_, rfl, ?_⟩
  have hdl : d'.toList.length = D.length := by simpa using hds
  have hB6 : RowO (RowV h0 b 75 rest (d'.map Mk.v)) b c 75 2 (d'.toList.map Mk.v) := by
   have h5 : ((D.map Mk.v).flatMap vcells).length = (D.map Mk.v).length * 2 := flat_len _ fun z hz => (mks_els _ z hz).1
   have h6 : ((d'.toList.map Mk.v).flatMap vcells).length = (d'.toList.map Mk.v).length * 2 := flat_len _ fun z hz => (mks_els _ z hz).1
   have h7 : (d'.toList.map Mk.v).length = (D.map Mk.v).length := by
    rw [List.length_map, List.length_map]; exact hperm.length_eq
   refine ⟨(d'.toList.map Mk.v).flatMap vcells ++ rest, by rw [RowV, Mem.set_at]; simp, by rw [h7]; exact hlen0, by rw [h7]; exact hcap0, mks_els _, ?_, ?_⟩
   ·rw [List.length_append] at hcs ⊢; omega
   ·rw [← h6, List.take_left]
  have F := mks_fresh (μ := μ) hB6 hap2 (hle1.trans hle2) (by rw [hdl]; omega)
  rw [hdl] at F
  exact F
end
end Go.Vx
namespace Go.Vx
open Go.Proofs Classical
section
variable {μ : Mem}
theorem impl_RefreshMarks_spec {s : List Bd} {l : List Mk} {base base2 : Option Addr} {cap cap2 : Nat} (hs : Sl μ 5 base s.length (s.map Bd.d)) (hl : Sl μ 2 base2 l.length (l.map Mk.d)) (hn7 : l.length ≤ 10000000) :
  Spec Try.prog 45 [.slice base s.length cap, .slice base2 l.length cap2] μ fun r μ' => optMk (fun y tv => Fresh μ μ' (.sl 2 (y.map Mk.d)) tv) (refM s l) r := by
 have hn := maxLen_le hl.max
 refine Spec.mkO [19] Try.func45 (by kernel_rfl) ?_
 refine cGv (impl_SubstOk_spec hs) ?_
 refine ifnd (fun h => rPl (by rw [refM, if_neg fun k => h k.1]; rfl)) (fun h1 => ?_)
 refine cGv (impl_MarksOk_spec hl) ?_
 refine ifnd (fun h => rPl (by rw [refM, if_neg fun k => h k.2]; rfl)) (fun h2 => ?_)
 have e : refM s l = refMFrom (s.map Bd.b) l [] := by rw [refM, if_pos ⟨h1, h2⟩]
 rw [e]
 generalize hO : refMFrom (s.map Bd.b) l [] = O
 clear e
 intro r19 hm19 ho19
 generalize hh : Mem.set _ r19 _ = h
 have hap0 : Apart μ h := by rw [← hh]; exact (apart_nil μ).set hm19
 clear hh hm19 ho19
 refine lIn (fun p : Nat × List Mk × Value × Mem => p.1 ≤ l.length ∧ μ.Le p.2.2.2 ∧ Apart p.2.2.2 h ∧ marksOk p.2.1 ∧ p.2.1.length ≤ 5000 * p.1 ∧ Fresh μ p.2.2.2 (.sl 2 (p.2.1.map Mk.d)) p.2.2.1 ∧ refMFrom (s.map Bd.b) (l.drop p.1) p.2.1 = O)
  (fun (i, acc, v, μ') => ⟨[(0, .val (.slice base s.length cap)), (6, .val v), (20, .val (.slice base2 l.length cap2)), (21, .val (.int .i64 l.length)), (22, .val (.int .i64 i))], [], 0, μ', h⟩) (fun p => l.length - p.1)
  (0, [], .slice (some ⟨r19, 0, none⟩) 0 0, μ) ⟨by simp, Mem.Le.refl _, hap0, marksOk_nil, by simp, ⟨Mem.nil, ⟨_, 0, rfl, ⟨Nat.zero_le _, Nat.zero_le _⟩, by simp, .inl ⟨rfl, rfl⟩⟩, (fun _ _ h => nomatch h), fun _ h => absurd rfl h⟩, hO⟩ (fun (_, _, _, _) => ⟨rfl, rfl⟩) ⟨⟨rfl, rfl, rfl, rfl, rfl, trivial⟩, trivial, rfl, rfl⟩ ?_
 clear hO hap0
 rintro ⟨i, acc, v, μ'⟩ ⟨hi, hle, hap, hacc, hal, hv, hJ⟩
 dsimp only at hi hle hap hacc hal hv hJ
 refine ifd (fun hlt => ?_) (fun hlt => ?_)
 ·have w_ := aSo (l := l) (i := i) (by omega)
  obtain ⟨c, hc⟩ := w_
  have w_ := Mk.elem (hl.mono hle) hc
  obtain ⟨ad, p, hel, _⟩ := w_
  have w_ := h2 i c hc
  obtain ⟨hg1, hg2, _⟩ := w_
  have hxl : ((T.var c.var).subst (sub (s.map Bd.b))).vars.length ≤ 5000 := by
   obtain ⟨bs, rfl, hbs⟩ := h1.subst
   rw [B.map_b]
   exact Nat.le_trans (T.vars_size _) (var_subst_ok hbs.vals.tok hg1).2
  rw [drop_at hc, refMFrom] at hJ
  have hvr := hv.rep
  have w_ := Rep.sl hvr
  obtain ⟨b9, c9, rfl, hs9⟩ := w_
  rw [List.length_map] at hvr hv ⊢
  refine eIn hel ?_
  intro r8
  refine cGv (variable_spec _) ?_
  have hok : (T.var c.var).tm.Ok := (var_ok hg1).tm
  have hxo : ((T.var c.var).subst (sub (s.map Bd.b))).ok := by
   obtain ⟨bs, rfl, hbs⟩ := h1.subst
   rw [B.map_b]
   exact var_subst_ok hbs.vals.tok hg1
  have hadd : addM s acc (T.var c.var).tm c.tag = addM1 acc ((T.var c.var).subst (sub (s.map Bd.b))) c.tag := by
   rw [addM, if_pos ⟨h1, hok, hacc, hg2⟩, T.toT_tm, fit, if_pos hxo.2]; rfl
  refine cDa hap (impl_AddAbsence_spec (hs.mono hle) hvr (varV_rep c.var) (by omega)) fun v2 μ2 hle2 hap2 hR2 => ?_
  rw [hadd] at hR2
  cases ha : addM1 acc ((T.var c.var).subst (sub (s.map Bd.b))) c.tag with
  | none =>
   rw [ha] at hR2 hJ
   obtain rfl := hR2
   obtain rfl : none = O := hJ
   refine iIn (fun _ => ?_) (fun h => nomatch h)
   exact ret_own _ Mem.nil (Parts.nil_right _) rfl
  | some l' =>
   rw [ha] at hR2 hJ
   obtain ⟨tv2, rfl, hR2⟩ := hR2
   have hl2 := addM1_len ha
   refine iIn (fun h => nomatch h) (fun _ => ?_)
   refine num64 (by omega) (by omega) ⟨(i + 1, l', tv2, μ2), ⟨by dsimp only; omega, hle.trans hle2, hap2, addM1_ok hacc hxo.1 hg2 ha, by dsimp only; omega, hR2.mono hle (Mem.Le.refl _), hJ⟩, by dsimp only; omega, ⟨⟨rfl, rfl, rfl, rfl, rfl, trivial⟩, trivial, rfl, rfl⟩⟩
 ·obtain rfl : i = l.length := by omega
  rw [List.drop_length, refMFrom] at hJ
  subst hJ
  exact ret_own _ Mem.nil (Parts.nil_right _) ⟨_, rfl, hv.mono (Mem.Le.refl _) (Mem.le_join _ _)⟩
end
end Go.Vx
namespace Go.Vx
open Go.Proofs Classical
section
variable {μ : Mem}
theorem mks_cnt : ∀ l : List Mk, D.cnts (l.map Mk.d) = 2 * l.length
 | [] => rfl
 | k :: l => by
  simp only [List.map_cons, D.cnts, List.length_cons]
  rw [Mk.cnt_eq, mks_cnt l]; omega
def resMk (o : Option (List Mk)) : List Mk := o.getD []
theorem optMk_fresh {μ μ' : Mem} {o : Option (List Mk)} {v : Value} (h : optMk (fun y tv => Fresh μ μ' (.sl 2 (y.map Mk.d)) tv) o v) : ∃ tv, v = .tuple #[tv, .bool o.isSome] ∧ Fresh μ μ' (.sl 2 ((resMk o).map Mk.d)) tv := by
 cases o with
 | some y => obtain ⟨tv, rfl, h⟩ := h; exact ⟨tv, rfl, h⟩
 | none => exact ⟨_, h, Mem.nil, Own.nilSl 2, (fun _ _ h => nomatch h), fun _ h => absurd rfl h⟩
theorem refMFrom_len {bs : List B} (h : ∀ b ∈ bs, b.to.ok) : ∀ {l acc y : List Mk}, (∀ k ∈ l, GoodM k) → refMFrom bs l acc = some y → y.length ≤ acc.length + 5000 * l.length
 | [], acc, y, _, e => by rw [refMFrom] at e; cases e; simp
 | c :: l, acc, y, hl, e => by
  rw [refMFrom] at e
  have hc := hl c (by simp)
  cases hf : addM1 acc ((T.var c.var).subst (sub bs)) c.tag with
  | none => rw [hf] at e; cases e
  | some a2 =>
   rw [hf] at e
   have h1 := refMFrom_len h (fun k hk => hl k (by simp [hk])) e
   have h2 := addM1_len hf
   have h3 := Nat.le_trans (T.vars_size _) (var_subst_ok h hc.1).2
   rw [List.length_cons]; omega
set_option maxHeartbeats 4000000 in
set_option maxHeartbeats 4000000 in
end
end Go.Vx
namespace Go.Vx
open Go.Proofs Classical
section
variable {c : Cl} {rank : Int → Nat} {val : Int → T}
end
section
variable {N : List Int} {P : T → Prop} {c c1 c2 : Cl} {a b : T} {o : Bool}
theorem EqR.swap (h : EqR N P c b a o c1) : EqR N P c a b o c1 := by
 cases o with
 | true => exact ⟨h.1, h.2.1, fun θ => (h.2.2.1 θ).trans ⟨fun k => ⟨k.1, k.2.symm⟩, fun k => ⟨k.1, k.2.symm⟩⟩, h.2.2.2⟩
 | false => exact fun θ k => h θ ⟨k.1, k.2.symm⟩
section
variable {x y : Int}
end
end
end Go.Vx
namespace Go.Vx
open Go.Proofs Classical
theorem asF_out {x : List B} (h : Srt x) (hp : Proper x) {n : Int} (hn : ∀ b ∈ x, b.var ≠ n) : asF x n = .var n :=
 Classical.byContradiction fun k => by
  have w_ := (asF_bound h hp).1 k
  obtain ⟨b, hb, e⟩ := w_
  exact hn b hb e
end Go.Vx
namespace Go.Vx
open Go.Proofs Classical
theorem absorb {s : List B} (h : Subst s) {θ : Int → T} : SolvesE θ (eqsB s) ↔ ∀ n, (asF s n).ap θ = θ n := by
 constructor
 ·exact fun k n => h.solL.sol.gen θ k n
 ·intro k
  refine solves_eqsB.2 fun b hb => ?_
  have := k b.var
  rw [asF_of_mem h.vals.srt hb] at this
  exact this.symm
theorem absorb_ap {s θ : Int → T} (h : ∀ n, (s n).ap θ = θ n) (t : T) : (t.ap s).ap θ = t.ap θ := by
 rw [T.ap_ap]
 exact T.ap_congr fun n _ => h n
theorem hasSym_ap {θ : Int → T} {x : ByteArray} : ∀ t : T, (t.ap θ).hasSym x ↔ t.hasSym x ∨ ∃ n, t.occ n ∧ (θ n).hasSym x
 | .pair a b => by
  have h1 := hasSym_ap (θ := θ) (x := x) a
  have h2 := hasSym_ap (θ := θ) (x := x) b
  show ((a.ap θ).hasSym x ∨ (b.ap θ).hasSym x) ↔ (a.hasSym x ∨ b.hasSym x) ∨ ∃ n, (a.occ n ∨ b.occ n) ∧ (θ n).hasSym x
  rw [h1, h2]
  constructor
  ·rintro ((h | ⟨n, h, k⟩) | (h | ⟨n, h, k⟩))
   ·exact .inl (.inl h)
   ·exact .inr ⟨n, .inl h, k⟩
   ·exact .inl (.inr h)
   ·exact .inr ⟨n, .inr h, k⟩
  ·rintro ((h | h) | ⟨n, h | h, k⟩)
   ·exact .inl (.inl h)
   ·exact .inr (.inl h)
   ·exact .inl (.inr ⟨n, h, k⟩)
   ·exact .inr (.inr ⟨n, h, k⟩)
 | .var n => by
  show (θ n).hasSym x ↔ False ∨ ∃ m, n = m ∧ (θ m).hasSym x
  constructor
  ·exact fun h => .inr ⟨n, rfl, h⟩
  ·rintro (h | ⟨m, rfl, h⟩)
   ·exact h.elim
   ·exact h
 | .nil => by
  show T.nil.hasSym x ↔ T.nil.hasSym x ∨ ∃ n, False ∧ (θ n).hasSym x
  simp
 | .sym y => by
  show (T.sym y).hasSym x ↔ (T.sym y).hasSym x ∨ ∃ n, False ∧ (θ n).hasSym x
  simp
 | .num y => by
  show (T.num y).hasSym x ↔ (T.num y).hasSym x ∨ ∃ n, False ∧ (θ n).hasSym x
  simp
theorem lvB_5 : lvB 5 = 2 := by rw [lvB, if_pos (by decide), lvB, if_neg (by decide)]
theorem lvB_3 : lvB 3 = 2 := by rw [lvB, if_pos (by decide), lvB, if_neg (by decide)]
end Go.Vx
namespace Go.Vx
open Go.Proofs Classical
theorem asF_lvs {e : List B} (hs : Srt e) {k : Nat} (hk : 1 ≤ k) (h : ∀ b ∈ e, b.to.lvs ≤ k) (n : Int) : (asF e n).lvs ≤ k := by
 cases c : sub e n with
 | none =>
  have : asF e n = .var n := by rw [asF, c]; rfl
  rw [this]; exact hk
 | some x =>
  have h1 : asF e n = x := by rw [asF, c]; rfl
  rw [h1]
  exact h _ (sub_in c)
end Go.Vx
namespace Go.Vx
open Go.Proofs Classical
def freeG (l : List Mk) (θ : Int → T) : Prop := ∀ c ∈ l, ¬ (θ c.var).hasSym c.tag
theorem addM1_some {l m : List Mk} {x : T} {tag : ByteArray} {θ : Int → T} (h : addM1 l x tag = some m) : freeG m θ ↔ freeG l θ ∧ ¬ (x.ap θ).hasSym tag := by
 unfold addM1 at h
 split at h
 ·cases h
 ·rename_i hx
  cases h
  rw [hasSym_ap]
  constructor
  ·refine fun q => ⟨fun c hc => q c ((ascOf_mem cMk_ord _ _).2 (List.mem_append_left _ hc)), ?_⟩
   rintro (k | ⟨n, k1, k2⟩)
   ·exact hx k
   ·exact q ⟨n, tag⟩ ((ascOf_mem cMk_ord _ _).2 (List.mem_append_right _ (mem_mksOf.2 ⟨n, T.occ_vars.1 k1, rfl⟩))) k2
  ·rintro ⟨q1, q2⟩ c hc k
   rcases List.mem_append.1 ((ascOf_mem cMk_ord _ _).1 hc) with hc | hc
   ·exact q1 c hc k
   ·have w_ := mem_mksOf.1 hc
    obtain ⟨n, hn, rfl⟩ := w_
    exact q2 (.inr ⟨n, T.occ_vars.2 hn, k⟩)
theorem addM1_none {l : List Mk} {x : T} {tag : ByteArray} {θ : Int → T} (h : addM1 l x tag = none) : (x.ap θ).hasSym tag := by
 unfold addM1 at h
 split at h
 ·rename_i hx
  exact (hasSym_ap x).2 (.inl hx)
 ·cases h
theorem refM_some {s : List B} {θ : Int → T} : ∀ {r acc m : List Mk}, refMFrom s r acc = some m → (freeG m θ ↔ freeG acc θ ∧ ∀ c ∈ r, ¬ ((asF s c.var).ap θ).hasSym c.tag)
 | [], acc, m, h => by
  cases h
  simp
 | c :: r, acc, m, h => by
  rw [refMFrom] at h
  have w_ := Option.bind_eq_some_iff.1 h
  obtain ⟨a, h1, h2⟩ := w_
  rw [refM_some h2, addM1_some h1, subst_asF]
  simp only [List.mem_cons, forall_eq_or_imp]
  exact and_assoc
theorem refM_none {s : List B} {θ : Int → T} : ∀ {r acc : List Mk}, refMFrom s r acc = none → ¬ ∀ c ∈ r, ¬ ((asF s c.var).ap θ).hasSym c.tag
 | [], acc, h => by cases h
 | c :: r, acc, h => by
  rw [refMFrom] at h
  intro q
  cases e : addM1 acc ((T.var c.var).subst (sub s)) c.tag with
  | none =>
   have k := addM1_none (θ := θ) e
   rw [subst_asF] at k
   exact q c (by simp) k
  | some a =>
   rw [e, Option.bind_some] at h
   exact refM_none (θ := θ) h fun d hd => q d (by simp [hd])
theorem addM1_free {l m : List Mk} {x : T} {tag : ByteArray} {p : Int → Prop} (h : addM1 l x tag = some m) (hl : ∀ c ∈ l, p c.var) (hx : ∀ n, x.occ n → p n) : ∀ c ∈ m, p c.var := by
 unfold addM1 at h
 split at h
 ·cases h
 ·cases h
  intro c hc
  rcases List.mem_append.1 ((ascOf_mem cMk_ord _ _).1 hc) with hc | hc
  ·exact hl c hc
  ·have w_ := mem_mksOf.1 hc
   obtain ⟨n, hn, rfl⟩ := w_
   exact hx n (T.occ_vars.2 hn)
theorem asF_free_occ2 {s : List B} (hs : Subst s) {v n : Int} (h : (asF s v).occ n) : ∀ c ∈ s, c.var ≠ n := by
 by_cases k : ∃ b ∈ s, b.var = v
 ·obtain ⟨b, hb, rfl⟩ := k
  rw [asF_of_mem hs.vals.srt hb] at h
  exact hs.free hb h
 ·have k : ∀ b ∈ s, b.var ≠ v := fun b hb e => k ⟨b, hb, e⟩
  have hS := hs.solL
  rw [asF_out hS.srt hS.proper k] at h
  have h : v = n := h
  subst h
  exact k
theorem refM_free {s : List B} (hs : Subst s) : ∀ {r acc m : List Mk}, refMFrom s r acc = some m → (∀ c ∈ acc, ∀ b ∈ s, b.var ≠ c.var) → ∀ c ∈ m, ∀ b ∈ s, b.var ≠ c.var
 | [], acc, m, h, k => by cases h; exact k
 | c :: r, acc, m, h, k => by
  rw [refMFrom] at h
  have w_ := Option.bind_eq_some_iff.1 h
  obtain ⟨a, h1, h2⟩ := w_
  rw [subst_asF] at h1
  exact refM_free hs h2 (addM1_free (p := fun n => ∀ b ∈ s, b.var ≠ n) h1 k fun n hn => asF_free_occ2 hs hn)
theorem refM_asc {s : List B} : ∀ {r acc m : List Mk}, refMFrom s r acc = some m → Asc3 cMk acc → Asc3 cMk m
 | [], acc, m, h, k => by cases h; exact k
 | c :: r, acc, m, h, k => by
  rw [refMFrom] at h
  have w_ := Option.bind_eq_some_iff.1 h
  obtain ⟨a, h1, h2⟩ := w_
  refine refM_asc h2 ?_
  unfold addM1 at h1
  split at h1
  ·cases h1
  ·cases h1
   exact ascOf_asc cMk_ord _
theorem refM_again {s : List B} (hs : Subst s) : ∀ {r acc : List Mk}, (∀ c ∈ r, ∀ b ∈ s, b.var ≠ c.var) → ∃ m, refMFrom s r acc = some m ∧ ∀ c, c ∈ m ↔ c ∈ acc ∨ c ∈ r
 | [], acc, _ => ⟨acc, rfl, by simp⟩
 | c :: r, acc, h1 => by
  have hS := hs.solL
  have e1 : (T.var c.var).subst (sub s) = .var c.var := by
   rw [subst_asF]
   exact asF_out hS.srt hS.proper (h1 c (by simp))
  have e2 : addM1 acc ((T.var c.var).subst (sub s)) c.tag = some (ascOf cMk_ord (acc ++ [c])) := by
   rw [e1, addM1, if_neg (show ¬ (T.var c.var).hasSym c.tag from fun k => k)]
   rfl
  have w_ := refM_again hs (r := r) (acc := ascOf cMk_ord (acc ++ [c])) fun d hd => h1 d (by simp [hd])
  obtain ⟨m, k1, k2⟩ := w_
  refine ⟨m, by rw [refMFrom, e2, Option.bind_some]; exact k1, fun d => ?_⟩
  rw [k2, ascOf_mem]
  simp only [List.mem_append, List.mem_cons, List.not_mem_nil, or_false, or_assoc]
theorem refM_same {s : List B} (hs : Subst s) {r m : List Mk} (h : refMFrom s r [] = some m) : refMFrom s m [] = some m := by
 have w_ := refM_again hs (r := m) (acc := []) (refM_free hs h fun c hc => by cases hc)
 obtain ⟨m', k1, k2⟩ := w_
 have a1 := refM_asc h (by simp [Asc3])
 have a2 := refM_asc k1 (by simp [Asc3])
 rw [k1]
 exact congrArg some (a2.uniq cMk_ord a1 fun c => by rw [k2]; simp)
end Go.Vx
namespace Go.Vx
open Go.Proofs Classical
open Go.ChangeShapes Go.WideShapes Go.ChangeAt Go.RowKit
section
variable {μ : Mem}
theorem MakeSize_spec {base : Option Addr} {n cap : Nat} (hb : Bytes μ base n) (m lo hi : Int) (hm : m ≤ 1000000) (h0 : 0 ≤ lo) (h1 : lo ≤ hi) (h2 : hi ≤ 1000) :
  Spec Try.prog 15 [.slice base n cap, .int .i64 m, .int .i64 lo, .int .i64 hi] μ fun v μ' => μ' = μ ∧ ∃ k : Int, v = .int .i64 k ∧ lo ≤ k ∧ k ≤ hi := by
 refine Spec.mk Try.func15 (by kernel_rfl) ?_
 refine cOw (l43New_spec hb m hm) fun v μ1 h1 hle1 hap1 hR => ?_
 obtain ⟨e, r, rfl, ho, hc1⟩ := hR
 obtain rfl := e.symm
 refine num64 (by omega) (by omega) (num64 (by omega) (by omega) ?_)
 refine cOw (l01Below_spec hc1.at _) fun v μ1 h2 hle2 hap2 hR => ?_
 obtain ⟨e, hc2, k, rfl, hk, hk2, _⟩ := hR
 obtain rfl := e.symm
 have := hk2 (by omega)
 refine num64 (by omega) (by omega) ?_
 exact rPl ⟨rfl, _, rfl, by omega, by omega⟩
end
end Go.Vx
namespace Go.Vx
open Go.Proofs Classical
section
variable {μ : Mem}
theorem MakeTerm_spec {base : Option Addr} {n cap : Nat} (hb : Bytes μ base n) (m : Int) (hm : m ≤ 1000000) (size vars : Nat) (hs : size ≤ 1000) (hv : vars ≤ 1000) :
  Spec Try.prog 11 [.slice base n cap, .int .i64 m, .int .i64 size, .int .i64 vars] μ fun v μ' => ∃ t : T, RepV μ' t.tm.d v ∧ Drawn (lvB size) vars t := by
 refine Spec.mk Try.func11 (by kernel_rfl) ?_
 intro r1
 refine cOw (l43New_spec hb m hm) fun v μ1 h1 hle1 hap1 hR => ?_
 obtain ⟨e, r, rfl, ho, hc1⟩ := hR
 obtain rfl := e.symm
 refine cOw (l02Draw_spec vars hv size hs hc1.at) fun v μ2 h2 hle2 hap2 hR => ?_
 obtain ⟨hc2, t, ht, hd⟩ := hR
 have w_ := Tm.invV ht
 obtain ⟨p, rfl⟩ := w_
 exact rPl ⟨t, ht, hd⟩
theorem l12Ground_spec {h : Mem} {r : Nat} (hc : Cur μ h r h) (n : Nat) (hn : n ≤ 1000) : SpecH Try.prog 52 [.pointer (some ⟨r, 0, none⟩), .int .i64 n] μ h fun v μ' h' => Cur μ' h r h' ∧ ∃ g : List B, GVals n 2 g ∧ RepV μ' (.sl 5 ((g.map B.bd).map Bd.d)) v := by
 refine SpecH.mk [] Try.func52 (by kernel_rfl) ?_
 intro r0
 refine lIn (fun p : Nat × Option Nat × Nat × List Value × List B × Mem × Mem => p.1 ≤ n ∧ μ.Le p.2.2.2.2.2.1 ∧ Cur p.2.2.2.2.2.1 h r p.2.2.2.2.2.2 ∧ GVals p.1 2 p.2.2.2.2.1 ∧ Rows p.2.2.2.2.2.1 5 ((p.2.2.2.2.1.map B.bd).map Bd.d) p.2.2.2.1)
  (fun (i, b, c, ys, _, μ', h') => ⟨[(0, .val (.pointer (some ⟨r, 0, none⟩))), (1, .val (.int .i64 n)), (5, .row 0 b ys.length c), (6, .val (.int .i64 i))], [(0, some (.row b c 56 5 ys))], 1, μ', h'⟩) (fun p => n - p.1)
  (0, some r0, 0, [], [], μ, h) ⟨Nat.zero_le _, Mem.Le.refl _, hc, GVals.nil 2, .nil⟩ (fun (_, _, _, _, _, _, _) => ⟨rfl, rfl⟩) ⟨⟨rfl, rfl, rfl, rfl, trivial⟩, ⟨rfl, trivial⟩, rfl, rfl⟩ ?_
 rintro ⟨i, b, c, ys, g, μ1, h1⟩ ⟨hi, hle1, hc1, hg, hrows⟩
 dsimp only at hi hle1 hc1 hg hrows
 have hyl := hrows.len
 rw [List.length_map, List.length_map, hg.len] at hyl
 refine ifd (fun hlt => ?_) (fun hlt => ?_)
 ·refine cOw (l02Draw_spec 0 (by decide) 3 (by decide) hc1.at) fun v μ2 h2 hle2 hap2 hR => ?_
  obtain ⟨hc2, t, ht, hd⟩ := hR
  have w_ := Tm.invV ht
  obtain ⟨q, rfl⟩ := w_
  intro r52
  refine gIn ?_ ?_ fun b' c' hb' => ?_
  ·show (ys.length + 1) * 64 ≤ _; omega
  ·exact Nat.le_trans (m := 100000000) (show ys.length + 1 ≤ _ by omega) (by decide)
  refine num64 (by omega) (by omega) ⟨(i + 1, b', c', _, g ++ [⟨i, t⟩], μ2, h2), ⟨by dsimp only; omega, hle1.trans hle2, hc1.trans hc2, hg.snoc (hd.mono (Nat.le_of_eq lvB_3)), ?_⟩, by dsimp only; omega, ⟨⟨rfl, rfl, rfl, rfl, trivial⟩, ⟨rfl, trivial⟩, rfl, rfl⟩⟩
  dsimp only
  rw [List.map_append, List.map_append]
  exact (hrows.mono hle2).append (Rows.one (RepV.bd ht) (Bd.d_n _))
 ·obtain rfl : i = n := by omega
  refine rFz [0] fun μ2 hle2 hno hat => .inl ⟨hc1.mono hle2, g, hg, ?_⟩
  exact Rows.sl hat (hrows.mono hle2) (Nat.le_trans (m := 1000) (by omega) (by decide))
end
end Go.Vx
namespace Go.Vx
open Go.Proofs Classical
section
variable {μ : Mem}
theorem MakeValue_spec {bs : List B} {base : Option Addr} {cap : Nat} {x : T} {v : Value} (hsl : Sl μ 5 base bs.length ((bs.map B.bd).map Bd.d)) (hv : RepV μ x.tm.d v) :
  Spec Try.prog 14 [v, .slice base bs.length cap] μ fun v μ' => RepV μ' (x.ap (asF bs)).tm.d v := by
 have w_ := Tm.invV hv
 obtain ⟨p, rfl⟩ := w_
 refine Spec.mk Try.func14 (by kernel_rfl) ?_
 intro r1 r2
 refine cPl (l04Put_spec x hsl hv) fun v1 μ1 hle1 hR => ?_
 refine cPl (l02Copy_spec _ hR) fun v2 μ2 hle2 hR2 => ?_
 have w_ := Tm.invV hR2
 obtain ⟨q, rfl⟩ := w_
 refine rPl ?_
 rw [← subst_asF]
 exact hR2
end
end Go.Vx
namespace Go.Vx
open Go.Proofs Classical
noncomputable def solved (s free : List B) : List B := free.map fun b => ⟨b.var, match sub s b.var with | some t => t.ap (asF free) | none => b.to⟩
theorem solved_vals {s g : List B} {n : Nat} (hs : DSub 4 8 4 4 s) (h : GVals n 2 g) (hn : 4 ≤ n) : GVals n 8 (solved s g) := by
 refine ⟨by rw [solved, List.length_map, h.len], fun i b hb => ?_⟩
 rw [solved, List.getElem?_map] at hb
 cases e : g[i]? with
 | none => rw [e] at hb; cases hb
 | some c =>
  rw [e] at hb
  cases hb
  have h1 := h.get i c e
  refine ⟨h1.1, ?_⟩
  show Drawn 8 0 (match sub s c.var with | some t => t.ap (asF g) | none => c.to)
  cases e2 : sub s c.var with
  | none => exact h1.2.mono (by decide)
  | some t =>
   have h2 := hs.rng _ (sub_in e2)
   exact h2.2.2.ap (l := 2) (by decide) fun m h0 h1 => h.asF h0 (by omega)
theorem solved_asF {s g : List B} {n k : Nat} (h : GVals n k g) {m : Int} (h0 : 0 ≤ m) (h1 : m < n) : asF (solved s g) m = match sub s m with | some t => t.ap (asF g) | none => asF g m := by
 have w_ := aSo (l := g) (i := m.toNat) (by rw [h.len]; omega)
 obtain ⟨b, hb⟩ := w_
 have k1 := h.get _ b hb
 have e : b.var = m := by rw [k1.1]; omega
 have hs : Srt (solved s g) := fun i j c d hij hc hd => by
  rw [solved, List.getElem?_map] at hc hd
  cases e1 : g[i]? with
  | none => rw [e1] at hc; cases hc
  | some c' =>
   cases e2 : g[j]? with
   | none => rw [e2] at hd; cases hd
   | some d' =>
    rw [e1] at hc
    rw [e2] at hd
    cases hc; cases hd
    exact h.srt i j c' d' hij e1 e2
 have hm : B.mk b.var (match sub s b.var with | some t => t.ap (asF g) | none => b.to) ∈ solved s g := List.mem_map.2 ⟨b, mAt hb, rfl⟩
 have k2 := asF_of_mem hs hm
 have k3 := asF_of_mem h.srt (mAt hb)
 rw [e] at k2 k3
 simp only at k2
 rw [k2, k3]
theorem solved_solves {s g : List B} {n k : Nat} (hs : DSub 4 8 4 4 s) (h : GVals n k g) (hn : 8 ≤ n) : SolvesE (asF (solved s g)) (eqsB s) := by
 refine solves_eqsB.2 fun b hb => ?_
 have hr := hs.rng b hb
 rw [solved_asF h (by omega) (by omega), sub_of_mem (srt_of_pw hs.srt).pw hb]
 show b.to.ap (asF g) = b.to.ap (asF (solved s g))
 refine T.ap_congr fun m hm => ?_
 have hm := hr.2.2.low m hm
 rw [solved_asF h (by omega) (by omega)]
 cases e : sub s m with
 | none => rfl
 | some t =>
  have := hs.rng _ (sub_in e)
  simp only at this
  omega
section
variable {μ : Mem}
theorem MakeSolved_spec {base : Option Addr} {n cap : Nat} (hb : Bytes μ base n) (m : Int) (hm : m ≤ 1000000) :
  Spec Try.prog 22 [.slice base n cap, .int .i64 m] μ fun v μ' => ∃ (s g : List B) (u w : Value), v = .tuple #[u, w] ∧ DSub 4 8 4 4 s ∧ GVals 8 8 g ∧ SolvesE (asF g) (eqsB s) ∧ RepV μ' (.sl 5 ((s.map B.bd).map Bd.d)) u ∧ RepV μ' (.sl 5 ((g.map B.bd).map Bd.d)) w := by
 refine Spec.mk Try.func22 (by kernel_rfl) ?_
 refine cOw (l43New_spec hb m hm) fun v μ1 h1 hle1 hap1 hR => ?_
 obtain ⟨e, r, rfl, ho, hc1⟩ := hR
 obtain rfl := e.symm
 refine cOw (l04Draw_spec hc1.at) fun v μ2 h2 hle2 hap2 hR => ?_
 obtain ⟨hc2, s, hs, hrs⟩ := hR
 have w_ := Rep.sl hrs
 obtain ⟨bs, cs, rfl, hss⟩ := w_
 rw [List.length_map, List.length_map] at hss hrs ⊢
 refine cOw (l12Ground_spec hc2.at 8 (by decide)) fun v μ3 h3 hle3 hap3 hR => ?_
 obtain ⟨hc3, g, hg, hrg⟩ := hR
 have w_ := Rep.sl hrg
 obtain ⟨bg, cg, rfl, hsg⟩ := w_
 rw [List.length_map, List.length_map] at hsg ⊢
 replace hss := hss.mono hle3
 have hgl := hg.len
 intro r0
 refine lIn (fun p : Nat × Option Nat × Nat × List Value × Mem => p.1 ≤ g.length ∧ μ3.Le p.2.2.2.2 ∧ Rows p.2.2.2.2 5 ((((solved s g).take p.1).map B.bd).map Bd.d) p.2.2.2.1)
  (fun (i, b, c, ys, μ') => ⟨[(7, .val (.slice bs s.length cs)), (8, .val (.slice bg g.length cg)), (9, .row 0 b ys.length c), (22, .val (.slice bg g.length cg)), (23, .val (.int .i64 g.length)), (24, .val (.int .i64 i))], [(0, some (.row b c 56 5 ys))], 1, μ', h3⟩) (fun p => g.length - p.1)
  (0, some r0, 0, [], μ3) ⟨Nat.zero_le _, Mem.Le.refl _, .nil⟩ (fun (_, _, _, _, _) => ⟨rfl, rfl⟩) ⟨⟨rfl, rfl, rfl, rfl, rfl, rfl, trivial⟩, ⟨rfl, trivial⟩, rfl, rfl⟩ ?_
 rintro ⟨i, b, c, ys, μ4⟩ ⟨hi, hle4, hrows⟩
 dsimp only at hi hle4 hrows
 have hyl := hrows.len
 simp only [List.length_map, List.length_take, solved] at hyl
 refine ifd (fun hlt => ?_) (fun hlt => ?_)
 ·have w_ := aSo (l := g) (i := i) (by omega)
  obtain ⟨z, hz⟩ := w_
  have w_ := B.elem (hsg.mono hle4) hz
  obtain ⟨ad, p, hel, hto⟩ := w_
  refine eIn hel ?_
  intro r1
  refine cPl (l04Get_spec (hss.mono hle4)) fun v5 μ5 hle5 hR => ?_
  obtain ⟨hR, e5⟩ := hR
  obtain rfl := e5.symm
  have hR : optV (fun y tv => RepV μ4 y.tm.d tv) (sub s z.var) v5 := hR
  have hst : ∀ w : T, (match sub s z.var with | some t => t.ap (asF g) | none => z.to) = w → (solved s g)[i]? = some ⟨z.var, w⟩ := fun w e => by rw [solved, List.getElem?_map, hz, ← e]; rfl
  cases e : sub s z.var with
  | none =>
   rw [e] at hR hst
   obtain rfl := hR
   intro r2
   refine iIn (fun h => nomatch h) (fun _ => ?_)
   intro r3
   refine gIn ?_ ?_ fun b' c' hb' => ?_
   ·show (ys.length + 1) * 64 ≤ _; omega
   ·exact Nat.le_trans (m := 100000000) (show ys.length + 1 ≤ _ by omega) (by decide)
   refine num64 (by omega) (by omega) ⟨(i + 1, b', c', _, μ4), ⟨by dsimp only; omega, hle4, ?_⟩, by dsimp only; omega, ⟨⟨rfl, rfl, rfl, rfl, rfl, rfl, trivial⟩, ⟨rfl, trivial⟩, rfl, rfl⟩⟩
   dsimp only
   rw [List.take_add_one, hst _ rfl, Option.toList_some, List.map_append, List.map_append]
   exact (hrows.mono (Mem.Le.refl _)).append (Rows.one (RepV.bd hto) (Bd.d_n _))
  | some t =>
   rw [e] at hR hst
   obtain ⟨tv, rfl, htv⟩ := hR
   have w_ := Tm.invV htv
   obtain ⟨q, rfl⟩ := w_
   intro r2
   refine iIn (fun _ => ?_) (fun h => nomatch h)
   refine cPl (l04Put_spec t (hsg.mono hle4) htv) fun v6 μ6 hle6 hR6 => ?_
   have w_ := Tm.invV hR6
   obtain ⟨q6, rfl⟩ := w_
   have hst' : (solved s g)[i]? = some ⟨z.var, t.subst (sub g)⟩ := hst _ (by rw [subst_asF])
   intro r3
   refine gIn ?_ ?_ fun b' c' hb' => ?_
   ·show (ys.length + 1) * 64 ≤ _; omega
   ·exact Nat.le_trans (m := 100000000) (show ys.length + 1 ≤ _ by omega) (by decide)
   refine num64 (by omega) (by omega) ⟨(i + 1, b', c', _, μ6), ⟨by dsimp only; omega, hle4.trans hle6, ?_⟩, by dsimp only; omega, ⟨⟨rfl, rfl, rfl, rfl, rfl, rfl, trivial⟩, ⟨rfl, trivial⟩, rfl, rfl⟩⟩
   dsimp only
   rw [List.take_add_one, hst', Option.toList_some, List.map_append, List.map_append]
   exact (hrows.mono hle6).append (Rows.one (RepV.bd hR6) (Bd.d_n _))
 ·obtain rfl : i = g.length := by omega
  have e : (solved s g).take g.length = solved s g := List.take_of_length_le (by rw [solved, List.length_map]; exact Nat.le_refl _)
  rw [e] at hrows
  refine rFz [0] fun μ5 hle5 hno hat => .inl ⟨s, solved s g, _, _, rfl, hs, solved_vals hs hg (by omega), solved_solves hs hg (Nat.le_refl _), hrs.mono (hle3.trans (hle4.trans hle5)), ?_⟩
  exact Rows.sl hat (hrows.mono hle5) (Nat.le_trans (m := 1000) (by omega) (by decide))
end
end Go.Vx
namespace Go.Vx
open Go.Proofs Classical
theorem T.good_occ : ∀ {t : T} {n : Int}, t.good → t.occ n → (T.var n).good
 | .pair _ _, n, h, k => k.elim (fun k => T.good_occ h.1 k) fun k => T.good_occ h.2 k
 | .var m, n, h, k => by
  have k : m = n := k
  subst k
  exact h
 | .nil, _, _, k => k.elim
 | .sym _, _, _, k => k.elim
 | .num _, _, _, k => k.elim
theorem DSub.fit {s : List B} (hs : DSub 4 8 4 4 s) {k : Nat} {vars : Int} {t : T} (h : Drawn k vars t) (hk : k ≤ 8) : fit (t.subst (sub s)) = some (t.ap (asF s)) := by
 rw [subst_asF]
 have h1 := lvs_ap (s := asF s) (M := 4) (by decide) t fun n _ => asF_lvs (srt_of_pw hs.srt) (by decide) (fun b hb => (hs.rng b hb).2.2.lvs) n
 have h2 := (t.ap (asF s)).size_lvs
 have h3 := h.lvs
 exact fit_some.2 ⟨by omega, rfl⟩
theorem DSub.good_ap {s : List B} (hs : DSub 4 8 4 4 s) {k : Nat} {vars : Int} {t : T} (h : Drawn k vars t) : (t.ap (asF s)).good :=
 T.good_ap (fun n hn => by
  cases e : sub s n with
  | none =>
   have : asF s n = .var n := by rw [asF, e]; rfl
   rw [this]
   exact T.good_occ h.good hn
  | some x =>
   have h1 : asF s n = x := by rw [asF, e]; rfl
   rw [h1]
   exact (hs.rng _ (sub_in e)).2.2.good) h.good
section
variable {μ : Mem}
end
end Go.Vx
