/- Texts of the proof, part E1. -/
import Derived.Below
import Derived.MapKept
import Derived.Orders
import Derived.WalkKit
import Derived.WideKeyMaps
import Derived.Test.YtheneidclfohoaaGreatM5
namespace Go.Vx
theorem app_introT {μ h : Mem} {r n cap : Nat} {ty : TypeId} {es bytes : Nat} {ys : List Value} {K : Nat → Nat → Mem → Prop} (xs : List Value) (ty0 : TypeId) (e : xs.length = n) (hr : RowO h r cap ty0 es xs) (h1 : (n + ys.length) * bytes ≤ 140737488355328) (h2 : n + ys.length ≤ maxLen)
  (k : ∀ r' cap' o ty', RowO (h.set r' o) r' cap' ty' es (xs ++ ys) → (r' = r ∨ (h r' = none ∧ μ r' = none)) → K r' cap' (h.set r' o)) : appVC μ h r n cap ty es bytes ys K := ⟨⟨xs, ty0, e, hr, h1, h2, fun r' c' o ty' _ => k r' c' o ty'⟩⟩
end Go.Vx
namespace Go.Vx
section
variable {P : Program} {f : FuncId} {args : List Value} {μ h0 : Mem}
theorem SpecH.thaw {R : Value → Mem → Mem → Prop} {R' : Value → Mem → Mem → Mem → Prop} (h : SpecH P f args μ h0 R) (G : ∀ v μ1 h1, R v μ1 h1 → ∃ g : Mem, g.Le μ1 ∧ (∀ b, g b ≠ none → μ b = none) ∧ R' v g μ1 h1) :
  SpecH P f args μ h0 fun v μ2 h2 => ∃ g μ1 h1, R' v g μ1 h1 ∧ μ.Le μ1 ∧ Parts h2 h1 g ∧ μ2 = μ1.sub g := by
 refine ⟨h.1, fun w hm hH ha => (h.2 w hm hH ha).mono ?_⟩
 rintro e w' ⟨v, μ1, h1, rfl, hr, hS⟩
 obtain ⟨g, hg, hf, hr'⟩ := G v μ1 h1 hr
 have hap : Apart μ g := fun b hb => by
  cases h2 : g b with
  | none => rfl
  | some o => exact absurd (hf b (by simp [h2])) hb
 have hgn : ∀ b, g b ≠ none → μ1 b ≠ none := fun b hb => by
  cases h2 : g b with
  | none => exact absurd h2 hb
  | some o => rw [hg b o h2]; simp
 have hh : Apart h1 g := fun b hb => by
  cases h2 : g b with
  | none => rfl
  | some o => exact absurd (hS.apart b (hgn b (by simp [h2]))) hb
 refine ⟨v, μ1.sub g, h1.join g, rfl, ⟨g, μ1, h1, hr', hS.le, Parts.join hh, rfl⟩, ⟨Mem.le_sub hS.le hap, hS.mem.le (Mem.sub_le _ _), hS.own.join (hS.mem.le hg), fun b hb => ?_, fun b hb hb' => ?_, fun b hb => ?_, hS.size, hS.keep, hS.os, hS.tape, hS.output⟩⟩
 ·have k1 := Mem.sub_none hb
  rw [Mem.sub_of k1] at hb
  rw [Mem.join_get, hS.apart b hb]; exact k1
 ·have k1 := Mem.sub_none hb'
  rw [Mem.sub_of k1] at hb'
  exact hS.fresh b hb hb'
 ·rw [Mem.join_get] at hb
  cases h2 : h1 b with
  | some o => exact hS.freshH b (by simp [h2])
  | none =>
   rw [h2] at hb
   exact hS.fresh b (hf b hb) (hgn b hb)
end
end Go.Vx
namespace Go.Vx
open Go.Proofs Classical
structure Strat (n : Nat) (A B : Nat → Nat → Prop) (S : Nat → Nat) : Prop where
 pos : ∀ i j, i < n → j < n → A i j → S j ≤ S i
 neg : ∀ i j, i < n → j < n → B i j → S j + 1 ≤ S i
section
variable {n : Nat} {A B : Nat → Nat → Prop}
theorem least_of {p : Nat → Prop} (h : ∃ k, p k) : ∃ k, p k ∧ ∀ j, p j → k ≤ j := Classical.byContradiction fun hn => by
 obtain ⟨k, hk⟩ := h
 have all : ∀ n j, j < n → ¬ p j := fun n => by
  induction n with
  | zero => exact fun j hj => absurd hj (Nat.not_lt_zero j)
  | succ n ih =>
   intro j hj hp
   exact hn ⟨j, hp, fun i hi => Nat.le_of_not_lt fun h => ih i (by omega) hi⟩
 exact all (k + 1) k (Nat.lt_succ_self k) hk
noncomputable def lowS (n : Nat) (A B : Nat → Nat → Prop) (i : Nat) : Nat := if h : ∃ k, ∃ T, Strat n A B T ∧ T i = k then (least_of h).choose else 0
theorem lowS_le {T : Nat → Nat} (h : Strat n A B T) (i : Nat) : lowS n A B i ≤ T i := by
 have k : ∃ k, ∃ T, Strat n A B T ∧ T i = k := ⟨_, T, h, rfl⟩
 rw [lowS, dif_pos k]
 exact (least_of k).choose_spec.2 _ ⟨T, h, rfl⟩
theorem lowS_at {T : Nat → Nat} (h : Strat n A B T) (i : Nat) : ∃ T', Strat n A B T' ∧ T' i = lowS n A B i := by
 have k : ∃ k, ∃ T, Strat n A B T ∧ T i = k := ⟨_, T, h, rfl⟩
 rw [lowS, dif_pos k]
 exact (least_of k).choose_spec.1
theorem lowS_strat {T : Nat → Nat} (h : Strat n A B T) : Strat n A B (lowS n A B) where
 pos i j hi hj e := by
  have w_ := lowS_at h i
  obtain ⟨T', h1, h2⟩ := w_
  have := h1.pos i j hi hj e
  have := lowS_le h1 j
  omega
 neg i j hi hj e := by
  have w_ := lowS_at h i
  obtain ⟨T', h1, h2⟩ := w_
  have := h1.neg i j hi hj e
  have := lowS_le h1 j
  omega
theorem lowS_full {T : Nat → Nat} (h : Strat n A B T) {i w : Nat} (_hi : i < n) (hw : w < lowS n A B i) : ∃ j, j < n ∧ lowS n A B j = w := Classical.byContradiction fun k => by
 have hS := lowS_strat h
 have hne : ∀ j, j < n → lowS n A B j ≠ w := fun j hj e => k ⟨j, hj, e⟩
 have h2 : Strat n A B fun j => if w < lowS n A B j then lowS n A B j - 1 else lowS n A B j := by
  refine ⟨fun a b ha hb e => ?_, fun a b ha hb e => ?_⟩
  ·have := hS.pos a b ha hb e
   have := hne a ha
   have := hne b hb
   split <;> split <;> omega
  ·have := hS.neg a b ha hb e
   have := hne a ha
   have := hne b hb
   split <;> split <;> omega
 have := lowS_le h2 i
 rw [if_pos hw] at this
 omega
theorem lowS_lt {T : Nat → Nat} (h : Strat n A B T) {i : Nat} (hi : i < n) : lowS n A B i < n := by
 have := len_le_of_sub (a := List.range (lowS n A B i + 1)) (b := (List.range n).map (lowS n A B)) List.nodup_range fun w hw => by
  rw [List.mem_range] at hw
  rw [List.mem_map]
  rcases Nat.lt_or_ge w (lowS n A B i) with e | e
  ·have w_ := lowS_full h hi e
   obtain ⟨j, hj, e2⟩ := w_
   exact ⟨j, List.mem_range.2 hj, e2⟩
  ·exact ⟨i, List.mem_range.2 hi, by omega⟩
 simp only [List.length_range, List.length_map] at this
 omega
end
end Go.Vx
namespace Go.Vx
open Go.Proofs Classical
def kidName : List Gl → List ByteArray
 | [] => []
 | x :: _ => [x.name]
mutual
noncomputable def Gl.calls (b : Bool) : Gl → List ByteArray
 | .mk k s _ gs => if k = 10 then (if b = true then kidName gs else []) else (if k = 9 ∧ b = false then [s] else []) ++ Gl.callss b gs
noncomputable def Gl.callss (b : Bool) : List Gl → List ByteArray
 | [] => []
 | g :: r => g.calls b ++ Gl.callss b r
end
theorem Gl.callss_map (b : Bool) : ∀ l : List Gl, Gl.callss b l = l.flatMap (Gl.calls b)
 | [] => rfl
 | g :: r => by rw [Gl.callss, Gl.callss_map b r, List.flatMap_cons]
theorem Gl.calls_eq (b : Bool) (g : Gl) : g.calls b = if g.kind = 10 then (if b = true then kidName g.goals else []) else (if g.kind = 9 ∧ b = false then [g.name] else []) ++ g.goals.flatMap (Gl.calls b) := by
 cases g
 rw [Gl.calls, Gl.callss_map]; rfl
theorem flat_takeC {α β : Type} {l : List α} {i : Nat} {x : α} (f : α → List β) (h : l[i]? = some x) : (l.take (i + 1)).flatMap f = (l.take i).flatMap f ++ f x := by
 rw [List.take_add_one, h, Option.toList_some, List.flatMap_append, List.flatMap_cons, List.flatMap_nil, List.append_nil]
theorem Gl.cnt_kids (g : Gl) : g.cnt = 1 + Gl.cnts g.goals := by
 cases g; rw [Gl.cnt]; rfl
theorem flat_len_leC {α β : Type} {f : α → List β} {w : α → Nat} : ∀ {l : List α}, (∀ x ∈ l, (f x).length ≤ w x) → (l.flatMap f).length ≤ (l.map w).sum
 | [], _ => by simp
 | x :: l, h => by
  rw [List.flatMap_cons, List.length_append, List.map_cons, List.sum_cons]
  have := h x (by simp)
  have := flat_len_leC (f := f) (w := w) fun y hy => h y (List.mem_cons_of_mem x hy)
  omega
theorem Gl.cnts_sum : ∀ l : List Gl, Gl.cnts l = (l.map Gl.cnt).sum
 | [] => by rw [Gl.cnts]; rfl
 | g :: l => by rw [Gl.cnts, Gl.cnts_sum l, List.map_cons, List.sum_cons]
theorem Gl.calls_len (b : Bool) : ∀ g : Gl, (g.calls b).length ≤ g.cnt := Gl.ind fun g ih => by
 rw [Gl.calls_eq, Gl.cnt_kids]
 split
 ·split
  ·cases h : g.goals <;> simp [kidName] <;> omega
  ·simp
 ·have := flat_len_leC (f := Gl.calls b) (w := Gl.cnt) ih
  rw [List.length_append, Gl.cnts_sum]
  have h2 : (if g.kind = 9 ∧ b = false then [g.name] else []).length ≤ 1 := by split <;> simp
  omega
theorem Gl.calls_fit {p : Pg} (b : Bool) : ∀ {g : Gl}, g.Sh → FitAll p g → ∀ s ∈ g.calls b, ∃ j : Nat, relAt p s = (j : Int) ∧ j < p.rels.length := fun {g} => by
 refine Gl.ind (q := fun g => g.Sh → FitAll p g → ∀ s ∈ g.calls b, ∃ j : Nat, relAt p s = (j : Int) ∧ j < p.rels.length) (fun g ih hS hF s hs => ?_) g
 have one : ∀ {x : Gl}, CallFits p x → x.kind = 9 → ∃ j : Nat, relAt p x.name = (j : Int) ∧ j < p.rels.length := fun hx k => by
  have w_ := hx k
  obtain ⟨i, r, h1, h2, _⟩ := w_
  exact ⟨i, h1, (List.getElem?_eq_some_iff.1 h2).1⟩
 rw [Gl.calls_eq] at hs
 split at hs
 ·rename_i k
  split at hs
  ·cases e : g.goals with
   | nil => rw [e] at hs; simp [kidName] at hs
   | cons x l =>
    rw [e] at hs
    simp only [kidName, List.mem_singleton] at hs
    subst hs
    exact one (hF.sub x (by rw [e]; simp)).top (hS.top.cl k x (by rw [e]; rfl))
  ·simp at hs
 ·rcases List.mem_append.1 hs with h | h
  ·split at h
   ·rename_i k
    rw [List.mem_singleton] at h
    subst h
    exact one hF.top k.1
   ·simp at h
  ·have w_ := List.mem_flatMap.1 h
   obtain ⟨x, hx, h⟩ := w_
   exact ih x hx (hS.sub x hx) (hF.sub x hx) s h
def calls2 (b : Bool) (p : Pg) (i j : Nat) : Prop := ∃ r, p.rels[i]? = some r ∧ ∃ s ∈ r.body.calls b, relAt p s = (j : Int)
noncomputable def strataO (p : Pg) : Option (List Nat) := if p.Ok ∧ ∃ T, Strat p.rels.length (calls2 false p) (calls2 true p) T then some ((List.range p.rels.length).map (lowS p.rels.length (calls2 false p) (calls2 true p))) else none
structure StI (p : Pg) (S : List Nat) (m : Nat) : Prop where
 len : S.length = p.rels.length
 max : ∀ k ∈ S, k ≤ m
 low : ∀ T, Strat p.rels.length (calls2 false p) (calls2 true p) T → ∀ (i k : Nat), S[i]? = some k → k ≤ T i
theorem sum_setN {S : List Nat} : ∀ {i k v : Nat}, S[i]? = some k → (S.set i v).sum + k = S.sum + v := by
 induction S with
 | nil => intro i k v h; simp at h
 | cons x S ih =>
  intro i k v h
  cases i with
  | zero =>
   simp only [List.getElem?_cons_zero, Option.some.injEq] at h
   subst h
   simp only [List.set_cons_zero, List.sum_cons]; omega
  | succ i =>
   rw [List.getElem?_cons_succ] at h
   have := ih (v := v) h
   simp only [List.set_cons_succ, List.sum_cons]; omega
theorem sum_leN {S : List Nat} {m : Nat} (h : ∀ k ∈ S, k ≤ m) : S.sum ≤ S.length * m := by
 induction S with
 | nil => simp
 | cons x S ih =>
  rw [List.sum_cons, List.length_cons, Nat.succ_mul]
  have := h x (by simp)
  have := ih fun k hk => h k (List.mem_cons_of_mem _ hk)
  omega
section
variable {p : Pg} {S : List Nat} {m : Nat}
theorem StI.start (p : Pg) (m : Nat) : StI p (List.replicate p.rels.length 0) m := ⟨by simp, fun k hk => by rw [(List.mem_replicate.1 hk).2]; omega, fun T _ i k h => by
 have w_ := List.getElem?_eq_some_iff.1 h
 obtain ⟨h1, h2⟩ := w_
 rw [List.getElem_replicate] at h2
 omega⟩
theorem StI.raise (h : StI p S m) {b : Bool} {i j x : Nat} (hi : i < p.rels.length) (hj : S[j]? = some x) (hc : calls2 b p i j) (hm : x + b.toNat ≤ m) : StI p (S.set i (x + b.toNat)) m := by
 have hjl := (List.getElem?_eq_some_iff.1 hj).1
 refine ⟨by rw [List.length_set]; exact h.len, fun k hk => ?_, fun T hT a k hk => ?_⟩
 ·rcases List.mem_or_eq_of_mem_set hk with k1 | rfl
  ·exact h.max k k1
  ·exact hm
 ·rw [List.getElem?_set] at hk
  split at hk
  ·rename_i e
   subst e
   split at hk
   ·cases hk
    have h1 := h.low T hT j x hj
    have hl := h.len
    cases b with
    | false => have := hT.pos i j hi (by omega) hc; simp; omega
    | true => have := hT.neg i j hi (by omega) hc; simp; omega
   ·cases hk
  ·exact h.low T hT a k hk
theorem StI.bad (h : StI p S m) (_hok : p.Ok) {i k : Nat} (hk : S[i]? = some k) (hb : p.rels.length ≤ k) : strataO p = none := by
 rw [strataO, if_neg]
 rintro ⟨-, T, hT⟩
 have hi := (List.getElem?_eq_some_iff.1 hk).1
 have h1 := h.low _ (lowS_strat hT) i k hk
 have h2 := lowS_lt hT (i := i) (by rw [← h.len]; exact hi)
 omega
theorem StI.done (h : StI p S m) (hok : p.Ok) (hc : ∀ b i j x y, calls2 b p i j → S[i]? = some x → S[j]? = some y → y + b.toNat ≤ x) : strataO p = some S := by
 have hT : Strat p.rels.length (calls2 false p) (calls2 true p) fun i => S.getD i 0 := by
  have at_ : ∀ i, i < p.rels.length → S[i]? = some (S.getD i 0) := fun i hi => by
   have w_ := aSo (l := S) (i := i) (by rw [h.len]; exact hi)
   obtain ⟨x, hx⟩ := w_
   rw [List.getD_eq_getElem?_getD, hx]; rfl
  refine ⟨fun i j hi hj e => ?_, fun i j hi hj e => ?_⟩
  ·have := hc false i j _ _ e (at_ i hi) (at_ j hj); simpa using this
  ·have := hc true i j _ _ e (at_ i hi) (at_ j hj); simpa using this
 rw [strataO, if_pos ⟨hok, _, hT⟩]
 congr 1
 refine List.ext_getElem? fun i => ?_
 rcases Nat.lt_or_ge i p.rels.length with hi | hi
 ·have w_ := aSo (l := S) (i := i) (by rw [h.len]; exact hi)
  obtain ⟨x, hx⟩ := w_
  rw [List.getElem?_map, List.getElem?_range hi, hx, Option.map_some]
  have h1 := h.low _ (lowS_strat hT) i x hx
  have h2 := lowS_le hT i
  rw [List.getD_eq_getElem?_getD, hx, Option.getD_some] at h2
  congr 1
  omega
 ·rw [List.getElem?_eq_none (by simpa using hi), List.getElem?_eq_none (by rw [h.len]; exact hi)]
end
structure PassI (p : Pg) (S0 S : List Nat) (ch : Bool) (C : List Nat → Prop) : Prop where
 same : ch = false → S = S0 ∧ C S0
 more : S0.sum ≤ S.sum
 grew : ch = true → S0.sum < S.sum
def StDone (p : Pg) (S : List Nat) (i : Nat) : Prop := ∀ a, a < i → ∀ b j x y, calls2 b p a j → S[a]? = some x → S[j]? = some y → y + b.toNat ≤ x
def StName (p : Pg) (S : List Nat) (i : Nat) (b : Bool) (l : List ByteArray) : Prop := ∀ s ∈ l, ∀ (j x y : Nat), relAt p s = (j : Int) → S[i]? = some x → S[j]? = some y → y + b.toNat ≤ x
theorem StDone.next {p : Pg} {S : List Nat} {i : Nat} {r : Rl} (h : StDone p S i) (hr : p.rels[i]? = some r) (h1 : StName p S i false (r.body.calls false)) (h2 : StName p S i true (r.body.calls true)) : StDone p S (i + 1) := fun a ha b j x y hc hx hy => by
 rcases Nat.lt_or_ge a i with k | k
 ·exact h a k b j x y hc hx hy
 ·obtain rfl : a = i := by omega
  obtain ⟨r2, hr2, s, hs, e⟩ := hc
  rw [hr] at hr2; cases hr2
  cases b with
  | false => exact h1 s hs j x y e hx hy
  | true => exact h2 s hs j x y e hx hy
theorem StName.snoc {p : Pg} {S : List Nat} {i k : Nat} {b : Bool} {l : List ByteArray} {s : ByteArray} {j x y : Nat} (h : StName p S i b (l.take k)) (hs : l[k]? = some s) (e : relAt p s = (j : Int)) (hx : S[i]? = some x) (hy : S[j]? = some y) (hle : y + b.toNat ≤ x) : StName p S i b (l.take (k + 1)) := by
 rw [List.take_add_one, hs, Option.toList_some]
 intro s2 hs2 j2 x2 y2 e2 hx2 hy2
 rcases List.mem_append.1 hs2 with h1 | h1
 ·exact h s2 h1 j2 x2 y2 e2 hx2 hy2
 ·rw [List.mem_singleton] at h1
  subst h1
  obtain rfl : j2 = j := by omega
  rw [hx] at hx2; cases hx2
  rw [hy] at hy2; cases hy2
  exact hle
theorem pass_step {p : Pg} {S0 S : List Nat} {ch : Bool} {C C' : List Nat → Prop} {m m' i j x y : Nat} {b : Bool} (hI : StI p S m) (hP : PassI p S0 S ch C) (hi : S[i]? = some y) (hj : S[j]? = some x) (hc : calls2 b p i j) (hm : x + b.toNat ≤ m') (hmm : m ≤ m')
  (hC : C S0 → S = S0 → x + b.toNat ≤ y → C' S0) : (y < x + b.toNat → StI p (S.set i (x + b.toNat)) m' ∧ PassI p S0 (S.set i (x + b.toNat)) true C') ∧ (¬ y < x + b.toNat → StI p S m' ∧ PassI p S0 S ch C') := by
 have hil := (List.getElem?_eq_some_iff.1 hi).1
 have hI' : StI p S m' := ⟨hI.len, fun k hk => Nat.le_trans (hI.max k hk) hmm, hI.low⟩
 refine ⟨fun h => ⟨hI'.raise (by rw [← hI.len]; exact hil) hj hc hm, (fun h => nomatch h), ?_, fun _ => ?_⟩, fun h => ⟨hI', fun e => ?_, hP.more, hP.grew⟩⟩
 ·have := sum_setN (v := x + b.toNat) hi
  have := hP.more
  omega
 ·have := sum_setN (v := x + b.toNat) hi
  have := hP.more
  omega
 ·have w_ := hP.same e
  obtain ⟨h1, h2⟩ := w_
  exact ⟨h1, hC h2 h1 (by omega)⟩
end Go.Vx
namespace Go.Vx
open Go.Proofs Classical
theorem Spec.ofH {P : Program} {f : FuncId} {args : List Value} {μ : Mem} {R : Value → Mem → Mem → Prop} (h : SpecH P f args μ Mem.nil R) : Spec P f args μ fun v μ2 => ∃ μ' h', μ.Le μ' ∧ Apart μ' h' ∧ R v μ' h' ∧ μ2 = μ'.join h' := by
 refine ⟨h.1, fun w hm hH ha => (h.2 w hm hH ha).mono ?_⟩
 rintro e w' ⟨v, μ1, h1, rfl, hr, hS⟩
 refine ⟨v, μ1.join h1, Mem.nil, rfl, ⟨μ1, h1, hS.le, hS.apart, hr, rfl⟩, ⟨hS.le.trans (Mem.le_join _ _), hS.mem.join hS.own, (fun b o hb => nomatch hb), (fun b hb => rfl), fun b hb hb' => ?_, fun b hb => absurd rfl hb, hS.size, hS.keep, hS.os, hS.tape, hS.output⟩⟩
 rw [Mem.join_get] at hb'
 cases h2 : μ1 b with
 | some o => exact hS.fresh b hb (by simp [h2])
 | none =>
  rw [h2] at hb'
  exact hS.freshH b hb'
abbrev NmV (μ : Mem) (l : List ByteArray) (v : Value) : Prop := RepV μ (.sl 1 (l.map D.s)) v
def AccS (h : Mem) (l : List ByteArray) (v : Value) : Prop := (l = [] ∧ v = .slice none 0 0) ∨ ∃ r c ty, v = .slice (some ⟨r, 0, none⟩) l.length c ∧ RowO h r c ty 1 (l.map Value.string)
theorem AccS.mono {h h' : Mem} {l : List ByteArray} {v : Value} (hl : h.Le h') (k : AccS h l v) : AccS h' l v := by
 rcases k with k | ⟨r, c, ty, e, cs, h1, h2⟩
 ·exact .inl k
 ·exact .inr ⟨r, c, ty, e, cs, hl _ _ h1, h2⟩
theorem Nm.rows {μ : Mem} : ∀ l : List ByteArray, Rows μ 1 (l.map D.s) (l.map Value.string)
 | [] => .nil
 | s :: l => .cons (show RepV μ (D.s s) (.string s) from rfl) rfl (Nm.rows l)
theorem AccS.rep {μ h : Mem} {l : List ByteArray} {v : Value} (hap : Apart μ h) (k : AccS h l v) : NmV (μ.join h) l v := by
 rcases k with ⟨rfl, rfl⟩ | ⟨r, c, ty, rfl, hro⟩
 ·exact ⟨none, 0, rfl, ⟨Nat.zero_le _, Nat.zero_le _⟩, (fun _ h => nomatch h), .inl rfl⟩
 ·have := hro.rep (Mem.le_join_right hap) (Nm.rows l)
  rw [List.length_map] at this
  exact this
theorem Nm.elem {μ : Mem} {l : List ByteArray} {b : Option Addr} {n i : Nat} {s : ByteArray} (h : Sl μ 1 b n (l.map D.s)) (hs : l[i]? = some s) : ∃ ad, ElemAt μ b n 1 i ad [.string s] := by
 have w_ := h.get i (D.s s) (by simp [hs])
 obtain ⟨ad, cs, h1, h2⟩ := w_
 have h2 : cs = [.string s] := h2
 subst h2
 exact ⟨ad, h1⟩
theorem NmV.sl {μ : Mem} {l : List ByteArray} {v : Value} (h : NmV μ l v) : ∃ b c, v = .slice b l.length c ∧ Sl μ 1 b l.length (l.map D.s) := by
 have w_ := Rep.sl h
 obtain ⟨b, c, rfl, hs⟩ := w_
 rw [List.length_map] at hs
 exact ⟨b, c, by rw [List.length_map], hs⟩
set_option maxHeartbeats 2000000 in
theorem l13Calls_own (b : Bool) : ∀ (g : Gl) {μ h : Mem} {v a : Value} {l : List ByteArray}, RepV μ g.d v → g.Sh → l.length + g.cnt ≤ 100000 → AccS h l a → SpecH Tryz.prog 178 [v, .bool b, a] μ h fun w _ h' => AccS h' (l ++ g.calls b) w :=
 Gl.ind fun g ih μ h v a l hv hS hn hacc => by
  have w_ := Gl.inv hv
  obtain ⟨p, rfl, hts, hgs⟩ := w_
  have hk := Gl.cnt_kids g
  have core : SpecH Tryz.prog 178 [.agg #[.int .i64 g.kind, .string g.name, .slice p.1.1 g.terms.length p.1.2, .slice p.2.1 g.goals.length p.2.2], .bool b, a] μ h fun w μ' h' => AccS h' (l ++ g.calls b) w ∨ ∃ r c, w = .slice (some ⟨r, 0, none⟩) (l ++ g.calls b).length c ∧ RowAt μ' (some r) c 1 ((l ++ g.calls b).map Value.string) ∧ μ r = none ∧ (l ++ g.calls b).length ≤ 200000 := by
   refine SpecH.mk [] Tryz.func178 (by kernel_rfl) ?_
   intro r3
   refine ifd (fun h9 => ?_) (fun h9 => ?_)
   ·refine iIn (fun hb => ?_) (fun hb => ?_)
    ·have hb : b = false := by simpa using hb
     subst hb
     have hce : g.calls false = [g.name] := by
      have h0 : g.goals = [] := List.eq_nil_of_length_eq_zero (hS.top.gl0 (.inr h9))
      rw [Gl.calls_eq, if_neg (by omega), if_pos ⟨h9, rfl⟩, h0]; rfl
     have h0 := hS.top.gl0 (.inr h9)
     rw [hce]
     intro r19
     rcases hacc with ⟨rfl, rfl⟩ | ⟨r, c, ty, rfl, hro⟩
     ·refine gIn (Nat.le_trans (m := 100) (by simp) (by decide)) (Nat.le_trans (m := 100) (by simp) (by decide)) fun b1 c1 hb1 => ?_
      refine ifd (fun k => by omega) (fun _ => ?_)
      refine lIn (fun i : Nat => i = 0) (fun i => ⟨[(1, .val (.bool false)), (2, .row 2 b1 1 c1), (35, .val (.slice p.2.1 g.goals.length p.2.2)), (36, .val (.int .i64 g.goals.length)), (37, .val (.int .i64 i))], [(2, some (.row b1 c1 9 1 [.string g.name]))], 3, μ, h⟩) (fun _ => 0)
       0 rfl (fun _ => ⟨rfl, rfl⟩) ⟨⟨rfl, rfl, rfl, rfl, rfl, trivial⟩, ⟨rfl, trivial⟩, rfl, rfl⟩ ?_
      rintro i rfl
      refine ifd (fun hlt => by omega) (fun _ => ?_)
      refine rFz [2] fun μ2 hle2 hno2 hrow2 => .inl (.inr ?_)
      cases b1 with
      | none => exact absurd (hb1 rfl) (by simp)
      | some r => exact ⟨r, c1, rfl, hrow2, hno2 r rfl, by simp⟩
     ·refine app_introT (l.map Value.string) ty (List.length_map ..) hro ?_ ?_ fun b9 c9 o ty9 hrow hor => ?_
      ·show (l.length + 1) * 16 ≤ _; omega
      ·exact Nat.le_trans (m := 200000) (show l.length + 1 ≤ _ by omega) (by decide)
      refine ifd (fun k => by omega) (fun _ => ?_)
      refine lIn (fun i : Nat => i = 0) (fun i => ⟨[(1, .val (.bool false)), (2, .val (.slice (some ⟨b9, 0, none⟩) (l.length + 1) c9)), (35, .val (.slice p.2.1 g.goals.length p.2.2)), (36, .val (.int .i64 g.goals.length)), (37, .val (.int .i64 i))], [], 1, μ, h.set b9 o⟩) (fun _ => 0)
       0 rfl (fun _ => ⟨rfl, rfl⟩) ⟨⟨rfl, rfl, rfl, rfl, rfl, trivial⟩, trivial, rfl, rfl⟩ ?_
      rintro i rfl
      refine ifd (fun hlt => by omega) (fun _ => ?_)
      exact rPl (.inl (.inr ⟨b9, c9, ty9, by rw [List.length_append]; rfl, by rw [List.map_append]; exact hrow⟩))
    ·have hb : b = true := by simpa using hb
     refine ifd (fun k => by omega) (fun h10 => ?_)
     have hno : (if g.kind = 9 ∧ b = false then [g.name] else []) = [] := by rw [if_neg (by rw [hb]; exact fun k => nomatch k.2)]
     have hg8 := hS.top.gl
     refine lIn (fun z : Nat × Value × Mem × Mem => z.1 ≤ g.goals.length ∧ μ.Le z.2.2.1 ∧ AccS z.2.2.2 (l ++ (g.goals.take z.1).flatMap (Gl.calls b)) z.2.1)
      (fun (i, a', μ', h') => ⟨[(1, .val (.bool b)), (2, .val a'), (35, .val (.slice p.2.1 g.goals.length p.2.2)), (36, .val (.int .i64 g.goals.length)), (37, .val (.int .i64 i))], [], 1, μ', h'⟩) (fun z => g.goals.length - z.1)
      (0, a, μ, h) ⟨Nat.zero_le _, Mem.Le.refl _, by simpa using hacc⟩ (fun (_, _, _, _) => ⟨rfl, rfl⟩) ⟨⟨rfl, rfl, rfl, rfl, rfl, trivial⟩, trivial, rfl, rfl⟩ ?_
     rintro ⟨i, a', μ', h'⟩ ⟨hi, hle, hacc'⟩
     dsimp only at hi hle hacc'
     refine ifd (fun hlt => ?_) (fun hlt => ?_)
     ·have w_ := aSo (l := g.goals) (i := i) (by omega)
      obtain ⟨x, hx⟩ := w_
      have w_ := Gl.elem (hgs.mono hle) hx
      obtain ⟨ad, q, hel, hr⟩ := w_
      have hx2 := Gl.cnts_take hx
      have hx3 := Gl.cnts_le g.goals (i + 1)
      have hx4 := flat_len_leC (f := Gl.calls b) (w := Gl.cnt) (l := g.goals.take i) fun y _ => Gl.calls_len b y
      rw [← Gl.cnts_sum] at hx4
      refine eIn hel ?_
      intro r8
      refine cOw (ih x (mAt hx) hr (hS.sub x (mAt hx)) (by rw [List.length_append]; omega) hacc') fun w μ1 h1 hle1 hap1 hR => ?_
      exact num64 (by omega) (by omega) ⟨(i + 1, w, μ1, h1), ⟨by dsimp only; omega, hle.trans hle1, by dsimp only; rw [flat_takeC _ hx, ← List.append_assoc]; exact hR⟩, by dsimp only; omega, ⟨⟨rfl, rfl, rfl, rfl, rfl, trivial⟩, trivial, rfl, rfl⟩⟩
     ·obtain rfl : i = g.goals.length := by omega
      refine rPl (.inl ?_)
      rw [Gl.calls_eq, if_neg h10, hno, List.nil_append]
      rw [List.take_length] at hacc'
      exact hacc'
   ·refine ifd (fun h10 => ?_) (fun h10 => ?_)
    ·have hl1 := hS.top.gl1 h10
     have w_ := aSo (l := g.goals) (i := 0) (by omega)
     obtain ⟨x, hx⟩ := w_
     refine iIn (fun hb => ?_) (fun hb => ?_)
     ·have hce : g.calls b = [x.name] := by
       rw [Gl.calls_eq, if_pos h10, if_pos hb]
       cases e : g.goals with
       | nil => rw [e] at hx; simp at hx
       | cons y r => rw [e] at hx; cases hx; rfl
      rw [hce]
      have w_ := Gl.elem hgs hx
      obtain ⟨ad, q, hel, hr⟩ := w_
      refine eIn hel ?_
      intro r31
      rcases hacc with ⟨rfl, rfl⟩ | ⟨r, c, ty, rfl, hro⟩
      ·refine gIn (Nat.le_trans (m := 100) (by simp) (by decide)) (Nat.le_trans (m := 100) (by simp) (by decide)) fun b1 c1 hb1 => ?_
       refine rFz [2] fun μ2 hle2 hno2 hrow2 => .inl (.inr ?_)
       cases b1 with
       | none => exact absurd (hb1 rfl) (by simp)
       | some r => exact ⟨r, c1, rfl, hrow2, hno2 r rfl, by simp⟩
      ·refine app_introT (l.map Value.string) ty (List.length_map ..) hro ?_ ?_ fun b9 c9 o ty9 hrow hor => ?_
       ·show (l.length + 1) * 16 ≤ _; omega
       ·exact Nat.le_trans (m := 200000) (show l.length + 1 ≤ _ by omega) (by decide)
       exact rPl (.inl (.inr ⟨b9, c9, ty9, by rw [List.length_append]; rfl, by rw [List.map_append]; exact hrow⟩))
     ·refine rPl (.inl ?_)
      rw [Gl.calls_eq, if_pos h10, if_neg (by rw [hb]; exact fun k => nomatch k), List.append_nil]
      exact hacc
    ·have hno : (if g.kind = 9 ∧ b = false then [g.name] else []) = [] := if_neg fun k => h9 k.1
     have hg8 := hS.top.gl
     refine lIn (fun z : Nat × Value × Mem × Mem => z.1 ≤ g.goals.length ∧ μ.Le z.2.2.1 ∧ AccS z.2.2.2 (l ++ (g.goals.take z.1).flatMap (Gl.calls b)) z.2.1)
      (fun (i, a', μ', h') => ⟨[(1, .val (.bool b)), (2, .val a'), (35, .val (.slice p.2.1 g.goals.length p.2.2)), (36, .val (.int .i64 g.goals.length)), (37, .val (.int .i64 i))], [], 1, μ', h'⟩) (fun z => g.goals.length - z.1)
      (0, a, μ, h) ⟨Nat.zero_le _, Mem.Le.refl _, by simpa using hacc⟩ (fun (_, _, _, _) => ⟨rfl, rfl⟩) ⟨⟨rfl, rfl, rfl, rfl, rfl, trivial⟩, trivial, rfl, rfl⟩ ?_
     rintro ⟨i, a', μ', h'⟩ ⟨hi, hle, hacc'⟩
     dsimp only at hi hle hacc'
     refine ifd (fun hlt => ?_) (fun hlt => ?_)
     ·have w_ := aSo (l := g.goals) (i := i) (by omega)
      obtain ⟨x, hx⟩ := w_
      have w_ := Gl.elem (hgs.mono hle) hx
      obtain ⟨ad, q, hel, hr⟩ := w_
      have hx2 := Gl.cnts_take hx
      have hx3 := Gl.cnts_le g.goals (i + 1)
      have hx4 := flat_len_leC (f := Gl.calls b) (w := Gl.cnt) (l := g.goals.take i) fun y _ => Gl.calls_len b y
      rw [← Gl.cnts_sum] at hx4
      refine eIn hel ?_
      intro r8
      refine cOw (ih x (mAt hx) hr (hS.sub x (mAt hx)) (by rw [List.length_append]; omega) hacc') fun w μ1 h1 hle1 hap1 hR => ?_
      exact num64 (by omega) (by omega) ⟨(i + 1, w, μ1, h1), ⟨by dsimp only; omega, hle.trans hle1, by dsimp only; rw [flat_takeC _ hx, ← List.append_assoc]; exact hR⟩, by dsimp only; omega, ⟨⟨rfl, rfl, rfl, rfl, rfl, trivial⟩, trivial, rfl, rfl⟩⟩
     ·obtain rfl : i = g.goals.length := by omega
      refine rPl (.inl ?_)
      rw [Gl.calls_eq, if_neg h10, hno, List.nil_append]
      rw [List.take_length] at hacc'
      exact hacc'
  refine (SpecH.thaw (R' := fun w g1 μ1 h1 => AccS h1 (l ++ g.calls b) w ∨ AccS g1 (l ++ g.calls b) w) core fun w μ1 h1 hR => ?_).weaken fun w μ2 h2 _ _ hR => ?_
  ·rcases hR with hR | ⟨r, c, rfl, hrow, hr, hm⟩
   ·exact ⟨Mem.nil, (fun _ _ h => nomatch h), (fun _ h => absurd rfl h), .inl hR⟩
   ·obtain ⟨h2, h3, arr, ty, h4, h5, h6⟩ := hrow
    refine ⟨Mem.nil.set r (.cells arr ty (0, 0)), fun x o hx => ?_, fun x hx => ?_, .inr (.inr ⟨r, c, ty, rfl, arr.toList, Mem.set_at _ _ _, h2, ?_, h3, by simpa using h5, h6⟩)⟩
    ·by_cases e : x = r
     ·subst e; rw [Mem.set_at] at hx; rw [h4]; exact hx
     ·rw [Mem.set_ne e] at hx; cases hx
    ·by_cases e : x = r
     ·subst e; exact hr
     ·rw [Mem.set_ne e] at hx; exact absurd rfl hx
    ·rw [List.length_map]
     exact Nat.le_trans hm (by decide)
  ·obtain ⟨g1, μ1, h1, hR, _, hp2, _⟩ := hR
   rcases hR with hR | hR
   ·exact hR.mono hp2.left
   ·exact hR.mono hp2.right
section
variable {μ : Mem}
theorem l13Calls_spec (b : Bool) {g : Gl} {v : Value} (hv : RepV μ g.d v) (hS : g.Sh) (hn : g.cnt ≤ 1000) : Spec Tryz.prog 178 [v, .bool b, .slice none 0 0] μ fun w μ' => NmV μ' (g.calls b) w :=
 (Spec.ofH (l13Calls_own b g (l := []) hv hS (by simp; omega) (.inl ⟨rfl, rfl⟩))).weaken fun w μ2 _ hR => by
  obtain ⟨μ', h', _, hap, hR, rfl⟩ := hR
  rw [List.nil_append] at hR
  exact hR.rep hap
theorem Nm.src {l : List ByteArray} {b : Option Addr} {c : Nat} (h : NmV μ l (.slice b l.length c)) : SrcAt μ b l.length 1 (l.map Value.string) := by
 have h0 : RepV μ (.sl 1 (l.map D.s)) (.slice b l.length c) := h
 have w_ := Rep.srcAll h0
 obtain ⟨vs, hr, hl, hsrc⟩ := w_
 have e : ∀ {l : List ByteArray} {vs : List Value}, Rows μ 1 (l.map D.s) vs → vs = l.map Value.string := by
  intro l
  induction l with
  | nil => intro vs h; cases h; rfl
  | cons s l ih =>
   intro vs h
   cases h with
   | cons h1 h2 h3 =>
    rename_i v _
    have h4 : [v] = [Value.string s] := h1
    cases h4
    rw [ih h3]; rfl
 rw [← e hr]; exact hsrc
noncomputable def callsU (b u : Bool) (g : Gl) : List ByteArray := if u = true then (if b = true then [g.name] else []) else g.calls b
set_option maxHeartbeats 2000000 in
theorem callsOf_spec (b : Bool) : ∀ (g : Gl) {μ : Mem} {v : Value} (u : Bool), RepV μ g.d v → g.Sh → g.cnt ≤ 1000 → (u = true → g.kind = 9) → Spec Tryz.prog 180 [v, .bool b, .bool u] μ fun w μ' => NmV μ' (callsU b u g) w :=
 Gl.ind fun g ih μ v u hv hS hn hu => by
  have w_ := Gl.inv hv
  obtain ⟨p, rfl, hts, hgs⟩ := w_
  have hk := Gl.cnt_kids g
  have hg8 := hS.top.gl
  refine Spec.mk Tryz.func180 (by kernel_rfl) ?_
  intro r3 r10
  refine ifd (fun h9 => ?_) (fun h9 => ?_)
  ·have h0 := hS.top.gl0 (.inr h9)
   have h00 : g.goals = [] := List.eq_nil_of_length_eq_zero h0
   have hL : callsU b u g = if u = b then [g.name] else [] := by
    rw [callsU, Gl.calls_eq, if_neg (show ¬ g.kind = 10 by omega), h00]
    cases u <;> cases b <;> simp [h9]
   refine iIn (fun e => ?_) (fun e => ?_)
   ·have e : u = b := by simpa using e
    rw [hL, if_pos e]
    intro r22
    refine gIn (Nat.le_trans (m := 100) (by simp) (by decide)) (Nat.le_trans (m := 100) (by simp) (by decide)) fun b1 c1 hb1 => ?_
    refine lIn (fun i : Nat => i = 0) (fun i => ⟨[(1, .val (.bool b)), (2, .val (.bool u)), (3, .loc 0 r3 0), (7, .row 1 (b1) (([] : List Value) ++ [Value.string g.name]).length (c1)), (25, .val (.slice p.2.1 g.goals.length p.2.2)), (26, .val (.int .i64 g.goals.length)), (27, .val (.int .i64 i))],
      [(0, some (.cells r3 [.val (.int .i64 g.kind), .val (.string g.name), .val (.slice p.1.1 g.terms.length p.1.2), .val (.slice p.2.1 g.goals.length p.2.2)] 87)), (1, some (.row (b1) (c1) 9 1 (([] : List Value) ++ [Value.string g.name])))], 2, μ, Mem.nil⟩) (fun _ => 0)
     0 rfl (fun _ => ⟨rfl, rfl⟩) ⟨⟨rfl, rfl, rfl, rfl, rfl, rfl, rfl, trivial⟩, ⟨rfl, rfl, trivial⟩, rfl, rfl⟩ ?_
    rintro i rfl
    refine ifd (fun hlt => by omega) (fun _ => ?_)
    refine rFz [1] fun μ2 hle2 hno2 hrow2 => .inl ?_
    exact Rows.sl hrow2 (Nm.rows [g.name]) (Nat.le_trans (m := 100) (by simp) (by decide))
   ·have e : ¬ u = b := by simpa using e
    rw [hL, if_neg e]
    refine lIn (fun i : Nat => i = 0) (fun i => ⟨[(1, .val (.bool b)), (2, .val (.bool u)), (3, .loc 0 r3 0), (7, .row 1 ((some r10)) (([] : List Value) ++ []).length (0)), (25, .val (.slice p.2.1 g.goals.length p.2.2)), (26, .val (.int .i64 g.goals.length)), (27, .val (.int .i64 i))],
      [(0, some (.cells r3 [.val (.int .i64 g.kind), .val (.string g.name), .val (.slice p.1.1 g.terms.length p.1.2), .val (.slice p.2.1 g.goals.length p.2.2)] 87)), (1, some (.row ((some r10)) (0) 9 1 (([] : List Value) ++ [])))], 2, μ, Mem.nil⟩) (fun _ => 0)
     0 rfl (fun _ => ⟨rfl, rfl⟩) ⟨⟨rfl, rfl, rfl, rfl, rfl, rfl, rfl, trivial⟩, ⟨rfl, rfl, trivial⟩, rfl, rfl⟩ ?_
    rintro i rfl
    refine ifd (fun hlt => by omega) (fun _ => ?_)
    refine rFz [1] fun μ2 hle2 hno2 hrow2 => .inl ?_
    exact Rows.sl hrow2 (Nm.rows []) (Nat.zero_le _)
  ·have hu : u = false := by
    cases u with
    | false => rfl
    | true => exact absurd (hu rfl) h9
   subst hu
   refine lIn (fun z : Nat × Option Nat × Nat × List Value × Mem => z.1 ≤ g.goals.length ∧ μ.Le z.2.2.2.2 ∧ z.2.2.2.1 = ((g.goals.take z.1).flatMap (callsU b (decide (g.kind = 10)))).map Value.string)
    (fun (i, bo, co, ys, μ') => ⟨[(1, .val (.bool b)), (2, .val (.bool false)), (3, .loc 0 r3 0), (7, .row 1 bo ys.length co), (25, .val (.slice p.2.1 g.goals.length p.2.2)), (26, .val (.int .i64 g.goals.length)), (27, .val (.int .i64 i))],
     [(0, some (.cells r3 [.val (.int .i64 g.kind), .val (.string g.name), .val (.slice p.1.1 g.terms.length p.1.2), .val (.slice p.2.1 g.goals.length p.2.2)] 87)), (1, some (.row bo co 9 1 ys))], 2, μ', Mem.nil⟩) (fun z => g.goals.length - z.1)
    (0, some r10, 0, [], μ) ⟨Nat.zero_le _, Mem.Le.refl _, rfl⟩ (fun (_, _, _, _, _) => ⟨rfl, rfl⟩) ⟨⟨rfl, rfl, rfl, rfl, rfl, rfl, rfl, trivial⟩, ⟨rfl, rfl, trivial⟩, rfl, rfl⟩ ?_
   rintro ⟨i, bo, co, ys, μ'⟩ ⟨hi, hle, hys⟩
   dsimp only at hi hle hys
   have lenU : ∀ (y : Gl) (w : Bool), (callsU b w y).length ≤ y.cnt := fun y w => by
    have h1 := Gl.calls_len b y
    have h2 := Gl.cnt_kids y
    rw [callsU]
    split
    ·split <;> simp <;> omega
    ·exact h1
   have hx4 := flat_len_leC (f := callsU b (decide (g.kind = 10))) (w := Gl.cnt) (l := g.goals.take i) fun y _ => lenU y _
   rw [← Gl.cnts_sum] at hx4
   have hyl : ys.length ≤ 1000 := by
    rw [hys, List.length_map]
    have := Gl.cnts_le g.goals i
    omega
   refine ifd (fun hlt => ?_) (fun hlt => ?_)
   ·have w_ := aSo (l := g.goals) (i := i) (by omega)
    obtain ⟨x, hx⟩ := w_
    have w_ := Gl.elem (hgs.mono hle) hx
    obtain ⟨ad, q, hel, hr⟩ := w_
    have hx2 := Gl.cnts_take hx
    have hx3 := Gl.cnts_le g.goals (i + 1)
    refine eIn hel ?_
    intro r9
    refine iIn (fun h => nomatch h) (fun _ => ?_)
    refine cPl (ih x (mAt hx) (decide (g.kind = 10)) hr (hS.sub x (mAt hx)) (by omega) fun k => ?_) fun w μ1 hle1 hR => ?_
    ·have k : g.kind = 10 := by simpa using k
     have hl1 := hS.top.gl1 k
     obtain rfl : i = 0 := by omega
     exact hS.top.cl k x hx
    have w_ := NmV.sl hR
    obtain ⟨b2, c2, rfl, _⟩ := w_
    have hl2 := lenU x (decide (g.kind = 10))
    refine src_intro _ (Nm.src hR) ?_
    refine gIn ?_ ?_ fun b' c' _ => ?_
    ·show (ys.length + _) * 16 ≤ _; rw [List.length_map]; omega
    ·exact Nat.le_trans (m := 100000000) (by rw [List.length_map]; omega) (by decide)
    refine num64 (by omega) (by omega) ⟨(i + 1, b', c', _, μ1), ⟨by dsimp only; omega, hle.trans hle1, ?_⟩, by dsimp only; omega, ⟨⟨rfl, rfl, rfl, rfl, rfl, rfl, rfl, trivial⟩, ⟨rfl, rfl, trivial⟩, rfl, rfl⟩⟩
    dsimp only
    rw [flat_takeC _ hx, List.map_append, hys]
   ·obtain rfl : i = g.goals.length := by omega
    rw [List.take_length] at hys
    have hfin : callsU b false g = g.goals.flatMap (callsU b (decide (g.kind = 10))) := by
     show g.calls b = _
     rw [Gl.calls_eq]
     by_cases k : g.kind = 10
     ·rw [if_pos k, decide_eq_true k]
      have hl1 := hS.top.gl1 k
      cases e : g.goals with
      | nil => rw [e] at hl1; cases hl1
      | cons x l =>
       obtain rfl : l = [] := by rw [e] at hl1; exact List.eq_nil_of_length_eq_zero (by simpa using hl1)
       rw [List.flatMap_cons, List.flatMap_nil, List.append_nil]; rfl
     ·rw [if_neg k, decide_eq_false k, if_neg fun h => h9 h.1]; rfl
    rw [hfin]
    refine rFz [1] fun μ2 hle2 hno2 hrow2 => .inl ?_
    have h := Nm.rows (μ := μ2) (g.goals.flatMap (callsU b (decide (g.kind = 10))))
    rw [← hys] at h
    exact Rows.sl hrow2 h (Nat.le_trans hyl (by decide))
theorem rowN_cell {r : Nat} {S : List Nat} {i x : Nat} (h : S[i]? = some x) : ∀ (j : Nat) (v : Value), [Value.int .i64 (x : Int)][j]? = some v → (Mem.nil.set r (.cells (List.toArray (S.map fun k : Nat => Value.int .i64 (k : Int))) 3 (0, 0))).cell ((⟨r, i * 1, none⟩ : Addr).add j) = some v := fun j v hj => by
 match j, hj with
 | 0, hj =>
  cases hj
  rw [Addr.add_lit', Nat.mul_one, Nat.add_zero]
  simp only [Mem.cell, Mem.set_at]
  simp [h]
abbrev rowN (r : Nat) (S : List Nat) : Mem := Mem.nil.set r (.cells (List.toArray (S.map fun k : Nat => Value.int .i64 (k : Int))) 3 (0, 0))
theorem rowN_set {r i w : Nat} {S : List Nat} (hil : i < S.length) : (rowN r S).set r (.cells (List.toArray ((S.map fun k : Nat => Value.int .i64 (k : Int)).take (i * 1) ++ [Value.int .i64 (w : Int)] ++ (S.map fun k : Nat => Value.int .i64 (k : Int)).drop (i * 1 + [Value.int .i64 (w : Int)].length))) 3 (0, 0)) = rowN r (S.set i w) := by
 rw [rowN, rowN, Mem.set_set]
 congr 3
 rw [List.map_set, List.set_eq_take_append_cons_drop, List.length_map, if_pos hil]
 simp
theorem l17Raise_spec {r c i w y n : Nat} {S : List Nat} (hl : S.length = n) (hi : S[i]? = some y) : SpecH Tryz.prog 179 [.slice (some ⟨r, 0, none⟩) n c, .int .i64 i, .int .i64 w] μ (rowN r S) fun v μ' h' => μ' = μ ∧ ((y < w ∧ v = .bool true ∧ h' = rowN r (S.set i w)) ∨ (¬ y < w ∧ v = .bool false ∧ h' = rowN r S)) := by
 subst hl
 have hil := (List.getElem?_eq_some_iff.1 hi).1
 refine SpecH.mk [] Tryz.func179 (by kernel_rfl) ?_
 refine idxV i rfl hil ?_
 refine oIn [.int .i64 y] rfl (rowN_cell hi) ?_
 refine ifd (fun h => ?_) (fun h => ?_)
 ·refine idxV i rfl hil ?_
  refine sIn (S.map fun k : Nat => Value.int .i64 (k : Int)) 3 (Mem.set_at _ _ _) rfl (by simp; omega) ?_
  exact rPl ⟨rfl, .inl ⟨by omega, rfl, rowN_set hil⟩⟩
 ·exact rPl ⟨rfl, .inr ⟨by omega, rfl, rfl⟩⟩
end
end Go.Vx
namespace Go.Vx
open Go.Proofs Classical
noncomputable def strIdx (p : Pg) (S : List Nat) (r : Ru) : Nat := S.getD (relAt p r.head.rel).toNat 0
noncomputable def ownR (p : Pg) (S : List Nat) (rs : List Ru) (s : Nat) : List Ru := rs.filter fun r => decide (strIdx p S r = s)
noncomputable def strF (p : Pg) (S : List Nat) (rs : List Ru) : Nat → List F
 | 0 => []
 | s + 1 => lfp (unlessR (ownR p S rs s) (strF p S rs s)) (strF p S rs s)
noncomputable def stratM (p : Pg) (u : List Tm) : Option (List F) := (strataO p).bind fun S => (groundO p u).map fun rs => strF p S rs p.rels.length
section
variable {p : Pg} {S : List Nat} {rs : List Ru}
theorem strF_asc : ∀ s, Asc3 cmpF (strF p S rs s)
 | 0 => List.Pairwise.nil
 | _ + 1 => lfp_asc _ _
theorem strF_head : ∀ s, ∀ f ∈ strF p S rs s, f ∈ rs.map Ru.head
 | 0, _, h => nomatch h
 | s + 1, f, h => by
  rw [strF, mem_lfp] at h
  cases h with
  | base k => exact strF_head s f k
  | rule k _ => exact List.mem_map_of_mem (List.mem_filter.1 (mem_unlessR.1 k).1).1
theorem strF_len (s : Nat) : (strF p S rs s).length ≤ rs.length := by
 have := len_le_of_sub ((strF_asc s).nodup cmpF_ord) (strF_head (p := p) (S := S) (rs := rs) s)
 rwa [List.length_map] at this
theorem strF_ok (hr : ∀ r ∈ rs, RuOk p r) (s : Nat) : FsOk p (strF p S rs s) := fun f hf => by
 have w_ := List.mem_map.1 (strF_head s f hf)
 obtain ⟨r, h1, rfl⟩ := w_
 exact (hr r h1).head
theorem strF_last (h : strataO p = some S) (hr : ∀ r ∈ rs, RuOk p r) : strF p S rs (p.rels.length + 1) = strF p S rs p.rels.length := by
 have hO : ownR p S rs p.rels.length = [] := by
  rw [ownR, List.filter_eq_nil_iff]
  intro r hm
  rw [decide_eq_true_eq]
  obtain ⟨⟨k, rl, h1, h2, _⟩, _⟩ := (hr r hm).head
  have h1 : relAt p r.head.rel = (k : Int) := h1
  have hk := (List.getElem?_eq_some_iff.1 h2).1
  rw [strataO] at h
  split at h
  ·rename_i hh
   obtain ⟨_, T, hT⟩ := hh
   cases h
   have := lowS_lt hT hk
   rw [strIdx, h1, Int.toNat_natCast, List.getD_eq_getElem?_getD, List.getElem?_map, List.getElem?_range hk]
   show lowS _ _ _ k ≠ _
   omega
  ·cases h
 rw [strF, hO]
 refine Asc3.uniq cmpF_ord (lfp_asc _ _) (strF_asc _) fun f => ?_
 rw [mem_lfp]
 constructor
 ·intro k
  cases k with
  | base k => exact k
  | rule k _ => exact nomatch (mem_unlessR.1 k).1
 ·exact .base
end
theorem stratM_ok {u : List Tm} {p : Pg} {y : List F} (h : stratM p u = some y) : p.Ok ∧ FsOk p y ∧ y.length ≤ 2000 := by
 rw [stratM] at h
 cases hS : strataO p with
 | none => rw [hS] at h; cases h
 | some S =>
  rw [hS, Option.bind_some] at h
  cases hL : groundO p u with
  | none => rw [hL] at h; cases h
  | some rs =>
   rw [hL] at h
   cases h
   have w_ := groundO_ok hL
   obtain ⟨h1, h2⟩ := w_
   refine ⟨(groundO_some hL).1, strF_ok h2 _, ?_⟩
   have := strF_len (p := p) (S := S) (rs := rs) p.rels.length
   show (strF p S rs p.rels.length).length ≤ 2000
   omega
end Go.Vx
namespace Go.Vx
open Go.Proofs Classical
abbrev NsV (μ : Mem) (S : List Nat) (v : Value) : Prop := RepV μ (.sl 1 ((S.map fun k : Nat => (k : Int)).map D.i)) v
def optNs (P : List Nat → Value → Prop) (o : Option (List Nat)) (v : Value) : Prop := match o with
 | none => v = .tuple #[.slice none 0 0, .bool false]
 | some S => ∃ tv, v = .tuple #[tv, .bool true] ∧ P S tv
theorem zeroRow (r n : Nat) : Mem.nil.set r (.cells (List.toArray ((List.replicate n (Value.int .i64 0)).flatMap vcells)) 3 (0, 0)) = rowN r (List.replicate n 0) := by
 have e : ∀ n : Nat, (List.replicate n (Value.int .i64 0)).flatMap vcells = (List.replicate n 0).map fun k : Nat => Value.int .i64 (k : Int) := fun n => by
  induction n with
  | zero => rfl
  | succ n ih => rw [List.replicate_succ, List.flatMap_cons, ih, List.replicate_succ, List.map_cons]; rfl
 rw [rowN, e]
theorem apN {μ : Mem} {r : Nat} (S : List Nat) (h : μ r = none) : Apart μ (rowN r S) := (apart_nil μ).set h
theorem apN_inv {μ : Mem} {r : Nat} {S : List Nat} (h : Apart μ (rowN r S)) : μ r = none := h.symm r (by rw [rowN, Mem.set_at]; simp)
theorem rowN_rep {μ : Mem} {r n : Nat} {S : List Nat} (h : μ r = none) (hl : S.length = n) (hm : n ≤ maxLen) : NsV (μ.join (rowN r S)) S (.slice (some ⟨r, 0, none⟩) n n) := by
 subst hl
 have e : (S.map fun k : Nat => Value.int .i64 (k : Int)) = ints (S.map fun k : Nat => (k : Int)) := by rw [ints, List.map_map]; rfl
 have hro : RowO (rowN r S) r S.length 3 1 (ints (S.map fun k : Nat => (k : Int))) := by
  rw [← e]
  have hf : ∀ S : List Nat, (S.map fun k : Nat => Value.int .i64 (k : Int)).flatMap vcells = S.map fun k : Nat => Value.int .i64 (k : Int) := fun S => by
   induction S with
   | nil => rfl
   | cons a l ih => rw [List.map_cons, List.flatMap_cons, ih]; rfl
  refine ⟨_, Mem.set_at _ _ _, by simp, by simpa using hm, fun v hv => ?_, by simp, ?_⟩
  ·have w_ := List.mem_map.1 hv
   obtain ⟨k, _, rfl⟩ := w_
   exact ⟨rfl, fun u hu => by rw [List.mem_singleton.1 hu]; rfl⟩
  ·rw [hf, Nat.mul_one, List.length_map]
   exact List.take_of_length_le (by simp)
 have := hro.rep (Mem.le_join_right (apN S h)) (Ints.rows _)
 have e2 : (ints (S.map fun k : Nat => (k : Int))).length = S.length := by rw [← e, List.length_map]
 rw [e2] at this
 exact this
theorem StDone.zero (p : Pg) (S : List Nat) : StDone p S 0 := fun a ha => by omega
theorem StName.nil (p : Pg) (S : List Nat) (i : Nat) (b : Bool) (l : List ByteArray) : StName p S i b (l.take 0) := fun s hs => by simp at hs
theorem StI.up {p : Pg} {S : List Nat} {m m' : Nat} (h : StI p S m) (hm : m ≤ m') : StI p S m' := ⟨h.len, fun k hk => Nat.le_trans (h.max k hk) hm, h.low⟩
theorem StI.at {p : Pg} {S : List Nat} {m i : Nat} (h : StI p S m) (hi : i < p.rels.length) : ∃ x, S[i]? = some x ∧ x ≤ m := by
 have w_ := aSo (l := S) (i := i) (by rw [h.len]; exact hi)
 obtain ⟨x, hx⟩ := w_
 exact ⟨x, hx, h.max x (mAt hx)⟩
theorem le_back {S S' : List Nat} {i w m : Nat} (h : ∀ j, j ≠ i → S'[j]? = S[j]?) (hS : ∀ k ∈ S, k + 1 ≤ m) (hi : S'[i]? = some w) (hw : w + 1 ≤ m) : ∀ k ∈ S', k + 1 ≤ m := fun k hk => by
 have w_ := List.mem_iff_getElem?.1 hk
 obtain ⟨j, hj⟩ := w_
 by_cases e : j = i
 ·subst e; rw [hi] at hj; cases hj; exact hw
 ·rw [h j e] at hj; exact hS k (mAt hj)
theorem set_ne_at {S : List Nat} {i w j : Nat} (h : j ≠ i) : (S.set i w)[j]? = S[j]? := List.getElem?_set_ne (Ne.symm h)
section
variable {μ : Mem}
set_option maxHeartbeats 4000000 in
theorem spec_Strata_spec {p : Pg} {v : Value} (hp : RepV μ p.d v) (hw : p.d.wd) : Spec Tryz.prog 110 [v] μ fun v μ' => optNs (NsV μ') (strataO p) v := by
 have hp0 := hp
 have w_ := Pg.inv hp
 obtain ⟨q, rfl, hrl⟩ := w_
 refine Spec.mkO [18] Tryz.func110 (by kernel_rfl) ?_
 intro r1
 refine cPl (spec_ProgramOk_spec hp0 hw) fun v1 μ1 hle0 hR => ?_
 obtain rfl := hR
 refine ifnd (fun h => rPl (by rw [strataO, if_neg fun k => h k.1]; rfl)) (fun hok => ?_)
 have h8 := hok.1
 refine make_intro p.rels.length rfl rfl (by simp only; omega) (Nat.le_trans (m := 8) h8 (by decide)) ?_
 intro r18 hm18 ho18
 refine lIn (fun z : List Nat × Bool × Mem => StI p z.1 1000 ∧ (∀ k ∈ z.1, k + 1 ≤ p.rels.length) ∧ μ1.Le z.2.2 ∧ z.2.2 r18 = none ∧ (z.2.1 = false → StDone p z.1 p.rels.length))
  (fun (S, ch, μ') => ⟨[(1, .loc 0 r1 0), (4, .val (.slice (some ⟨r18, 0, none⟩) p.rels.length p.rels.length)), (5, .val (.bool ch))], [(0, some (.cells r1 [.val (.slice q.1 p.rels.length q.2)] 32))], 1, μ', rowN r18 S⟩) (fun z => if z.2.1 = true then p.rels.length * p.rels.length + 1 - z.1.sum else 0)
  (List.replicate p.rels.length 0, true, μ1) ⟨StI.start p 1000, fun k hk => ?_, Mem.Le.refl _, hm18, fun h => nomatch h⟩ (fun (_, _, _) => ⟨rfl, rfl⟩) ⟨⟨rfl, rfl, rfl, trivial⟩, ⟨rfl, trivial⟩, rfl, zeroRow r18 p.rels.length⟩ ?_
 ·have h := List.mem_replicate.1 hk
  omega
 rintro ⟨S0, ch0, μ'⟩ ⟨hI, hmx, hle, hr, hd⟩
 dsimp only at hI hmx hle hr hd
 refine iIn (fun hch => ?_) (fun hch => ?_)
 rotate_left
 ·refine ret_own (rowN r18 S0) Mem.nil (Parts.nil_right _) ?_
  have hd := hd hch
  rw [hI.done hok fun b i j x y hc hx hy => hd i (by have := (List.getElem?_eq_some_iff.1 hx).1; have := hI.len; omega) b j x y hc hx hy]
  exact ⟨_, rfl, rowN_rep hr hI.len (Nat.le_trans (m := 8) h8 (by decide))⟩
 refine lIn (fun z : Nat × List Nat × Bool × Mem => z.1 ≤ p.rels.length ∧ StI p z.2.1 1000 ∧ (∀ k ∈ z.2.1, k + 1 ≤ p.rels.length) ∧ μ1.Le z.2.2.2 ∧ z.2.2.2 r18 = none ∧ PassI p S0 z.2.1 z.2.2.1 (fun S => StDone p S z.1))
  (fun (i, S, ch, μ') => ⟨[(1, .loc 0 r1 0), (4, .val (.slice (some ⟨r18, 0, none⟩) p.rels.length p.rels.length)), (5, .val (.bool ch)), (21, .val (.slice q.1 p.rels.length q.2)), (22, .val (.int .i64 p.rels.length)), (23, .val (.int .i64 i))], [(0, some (.cells r1 [.val (.slice q.1 p.rels.length q.2)] 32))], 1, μ', rowN r18 S⟩) (fun z => p.rels.length - z.1)
  (0, S0, false, μ') ⟨Nat.zero_le _, hI, hmx, hle, hr, ⟨fun _ => ⟨rfl, StDone.zero _ _⟩, Nat.le_refl _, fun h => nomatch h⟩⟩ (fun (_, _, _, _) => ⟨rfl, rfl⟩) ⟨⟨rfl, rfl, rfl, rfl, rfl, rfl, trivial⟩, ⟨rfl, trivial⟩, rfl, rfl⟩ ?_
 rintro ⟨i, S1, ch1, μ2⟩ ⟨hi, hI1, hmx1, hle1, hr1, hP1⟩
 dsimp only at hi hI1 hmx1 hle1 hr1 hP1
 refine ifd (fun hlt => ?_) (fun hlt => ?_)
 rotate_left
 ·obtain rfl : i = p.rels.length := by omega
  refine ⟨(S1, ch1, μ2), ⟨hI1, hmx1, hle1, hr1, fun e => ?_⟩, ?_, ⟨⟨rfl, rfl, rfl, trivial⟩, ⟨rfl, trivial⟩, rfl, rfl⟩⟩
  ·have w_ := hP1.same e
   obtain ⟨h1, h2⟩ := w_
   dsimp only
   rw [h1]; exact h2
  ·dsimp only
   rw [if_pos hch]
   have h2 : S1.sum ≤ p.rels.length * p.rels.length := by
    have := sum_leN (S := S1) (m := p.rels.length) fun k hk => by have := hmx1 k hk; omega
    rwa [hI1.len] at this
   have h3 : S0.sum ≤ p.rels.length * p.rels.length := by
    have := sum_leN (S := S0) (m := p.rels.length) fun k hk => by have := hmx k hk; omega
    rwa [hI.len] at this
   by_cases e : ch1 = true
   ·have := hP1.grew e
    rw [if_pos e]; omega
   ·rw [if_neg e]; omega
 have w_ := aSo (l := p.rels) (i := i) (by omega)
 obtain ⟨x, hx⟩ := w_
 have hro := hok.2 i x hx
 have hsz := hro.size
 have hlen : ∀ b, (x.body.calls b).length ≤ 60 := fun b => Nat.le_trans (Gl.calls_len b x.body) hsz
 have hfit : ∀ b, ∀ s ∈ x.body.calls b, ∃ j : Nat, relAt p s = (j : Int) ∧ j < p.rels.length := fun b => Gl.calls_fit b hro.body hro.calls
 have hle02 := hle0.trans hle1
 have w_ := Rl.elemA (hrl.mono hle02) hx
 obtain ⟨ad, qr, hel, hrx, hbody⟩ := w_
 have hbody : RepV μ2 x.body.d (.agg (x.body.cs qr).toArray) := hbody
 refine eIn hel ?_
 intro r7
 refine cDa (apN S1 hr1) (l13Calls_spec false hbody hro.body (by omega)) fun v3 μ3 hle3 hap3 hR3 => ?_
 have hr3 := apN_inv hap3
 have hl0 := hlen false
 have hf0 := hfit false
 have hL0 : ∀ s ∈ x.body.calls false, ∀ j : Nat, relAt p s = (j : Int) → calls2 false p i j := fun s hs j e => ⟨x, hx, s, hs, e⟩
 generalize hLd : x.body.calls false = L at *
 have w_ := NmV.sl hR3
 obtain ⟨b3, c3, rfl, hs3⟩ := w_
 refine lIn (fun z : Nat × List Nat × Bool => z.1 ≤ L.length ∧ StI p z.2.1 (p.rels.length + z.1) ∧ (∀ j, j ≠ i → z.2.1[j]? = S1[j]?) ∧ PassI p S0 z.2.1 z.2.2 (fun S => StDone p S i ∧ StName p S i false (L.take z.1)))
  (fun (k, S, ch) => ⟨[(1, .loc 0 r1 0), (4, .val (.slice (some ⟨r18, 0, none⟩) p.rels.length p.rels.length)), (5, .val (.bool ch)), (6, .val (.int .i64 i)), (7, .loc 1 r7 0), (21, .val (.slice q.1 p.rels.length q.2)), (22, .val (.int .i64 p.rels.length)), (23, .val (.int .i64 i)), (30, .val (.slice b3 L.length c3)), (31, .val (.int .i64 L.length)), (32, .val (.int .i64 k))],
   [(0, some (.cells r1 [.val (.slice q.1 p.rels.length q.2)] 32)), (1, some (.cells r7 (vals (x.cs qr)) 89))], 2, μ3, rowN r18 S⟩) (fun z => L.length - z.1)
  (0, S1, ch1) ⟨Nat.zero_le _, ⟨hI1.len, fun k hk => by have := hmx1 k hk; omega, hI1.low⟩, fun _ _ => rfl, ⟨fun e => ⟨(hP1.same e).1, (hP1.same e).2, StName.nil _ _ _ _ _⟩, hP1.more, hP1.grew⟩⟩ (fun (_, _, _) => ⟨rfl, rfl⟩) ⟨⟨rfl, rfl, rfl, rfl, rfl, rfl, rfl, rfl, rfl, rfl, rfl, trivial⟩, ⟨rfl, rfl, trivial⟩, rfl, rfl⟩ ?_
 rintro ⟨k, S, ch⟩ ⟨hk, hI3, hback, hP3⟩
 dsimp only at hk hI3 hback hP3
 have hpR := hp0.mono (hle02.trans hle3)
 refine ifd (fun hlt3 => ?_) (fun hlt3 => ?_)
 ·have w_ := aSo (l := L) (i := k) (by omega)
  obtain ⟨nm, hnm⟩ := w_
  have w_ := Nm.elem hs3 hnm
  obtain ⟨ad4, hel4⟩ := w_
  have w_ := hf0 nm (mAt hnm)
  obtain ⟨j, hj, hjl⟩ := w_
  have w_ := hI3.at (i := j) hjl
  obtain ⟨y, hy, hym⟩ := w_
  have w_ := hI3.at (i := i) (by omega)
  obtain ⟨w, hwi, hwm⟩ := w_
  have hstep := pass_step (C' := fun S => StDone p S i ∧ StName p S i false (L.take (k + 1))) hI3 hP3 hwi hy (hL0 nm (mAt hnm) j hj) (m' := p.rels.length + (k + 1)) (by simp; omega) (by omega) fun hc e hle => ⟨hc.1, hc.2.snoc hnm hj (by rw [← e]; exact hwi) (by rw [← e]; exact hy) hle⟩
  refine eIn hel4 ?_
  have hfind := l14Find_spec (s := nm) hpR
  rw [hj] at hfind
  refine cGv hfind ?_
  refine idxV j rfl (by omega) ?_
  refine oIn [.int .i64 y] rfl (rowN_cell hy) ?_
  refine cOw (l17Raise_spec (w := y) hI3.len hwi) fun v5 μ5 h5 hle5 hap5 hR5 => ?_
  obtain ⟨e5, hR5⟩ := hR5
  subst e5
  rcases hR5 with ⟨hlt5, rfl, rfl⟩ | ⟨hge5, rfl, rfl⟩
  ·refine iIn (fun _ => ?_) (fun h => nomatch h)
   have h6 := hstep.1 hlt5
   exact num64 (by omega) (by omega) ⟨(k + 1, S.set i y, true), ⟨by dsimp only; omega, h6.1, fun a ha => by dsimp only; rw [set_ne_at ha]; exact hback a ha, h6.2⟩, by dsimp only; omega, ⟨⟨rfl, rfl, rfl, rfl, rfl, rfl, rfl, rfl, rfl, rfl, rfl, trivial⟩, ⟨rfl, rfl, trivial⟩, rfl, rfl⟩⟩
  ·refine iIn (fun h => nomatch h) (fun _ => ?_)
   have h6 := hstep.2 hge5
   exact num64 (by omega) (by omega) ⟨(k + 1, S, ch), ⟨by dsimp only; omega, h6.1, hback, h6.2⟩, by dsimp only; omega, ⟨⟨rfl, rfl, rfl, rfl, rfl, rfl, rfl, rfl, rfl, rfl, rfl, trivial⟩, ⟨rfl, rfl, trivial⟩, rfl, rfl⟩⟩
 obtain rfl : k = L.length := by omega
 rw [List.take_length] at hP3
 refine cDa (apN S hr3) (l13Calls_spec true (RepV.mono hle3 hbody) hro.body (by omega)) fun v4 μ4 hle4 hap4 hR4 => ?_
 have hr4 := apN_inv hap4
 have hl1 := hlen true
 have hf1 := hfit true
 have hL1 : ∀ s ∈ x.body.calls true, ∀ j : Nat, relAt p s = (j : Int) → calls2 true p i j := fun s hs j e => ⟨x, hx, s, hs, e⟩
 generalize hLd1 : x.body.calls true = L1 at *
 have w_ := NmV.sl hR4
 obtain ⟨b4, c4, rfl, hs4⟩ := w_
 refine lIn (fun z : Nat × List Nat × Bool => z.1 ≤ L1.length ∧ StI p z.2.1 (p.rels.length + L.length + z.1) ∧ (∀ j, j ≠ i → z.2.1[j]? = S1[j]?) ∧ PassI p S0 z.2.1 z.2.2 (fun S => (StDone p S i ∧ StName p S i false L) ∧ StName p S i true (L1.take z.1)))
  (fun (k, S, ch) => ⟨[(1, .loc 0 r1 0), (4, .val (.slice (some ⟨r18, 0, none⟩) p.rels.length p.rels.length)), (5, .val (.bool ch)), (6, .val (.int .i64 i)), (21, .val (.slice q.1 p.rels.length q.2)), (22, .val (.int .i64 p.rels.length)), (23, .val (.int .i64 i)), (51, .val (.slice b4 L1.length c4)), (52, .val (.int .i64 L1.length)), (53, .val (.int .i64 k))],
   [(0, some (.cells r1 [.val (.slice q.1 p.rels.length q.2)] 32))], 2, μ4, rowN r18 S⟩) (fun z => L1.length - z.1)
  (0, S, ch) ⟨Nat.zero_le _, hI3.up (by omega), hback, ⟨fun e => ⟨(hP3.same e).1, (hP3.same e).2, StName.nil _ _ _ _ _⟩, hP3.more, hP3.grew⟩⟩ (fun (_, _, _) => ⟨rfl, rfl⟩) ⟨⟨rfl, rfl, rfl, rfl, rfl, rfl, rfl, rfl, rfl, rfl, trivial⟩, ⟨rfl, trivial⟩, rfl, rfl⟩ ?_
 clear hP3 hI3 hback
 rintro ⟨k, S, ch⟩ ⟨hk, hI3, hback, hP3⟩
 dsimp only at hk hI3 hback hP3
 have hpR := hpR.mono hle4
 refine ifd (fun hlt4 => ?_) (fun hlt4 => ?_)
 ·have w_ := aSo (l := L1) (i := k) (by omega)
  obtain ⟨nm, hnm⟩ := w_
  have w_ := Nm.elem hs4 hnm
  obtain ⟨ad4, hel4⟩ := w_
  have w_ := hf1 nm (mAt hnm)
  obtain ⟨j, hj, hjl⟩ := w_
  have w_ := hI3.at (i := j) hjl
  obtain ⟨y, hy, hym⟩ := w_
  have w_ := hI3.at (i := i) (by omega)
  obtain ⟨w, hwi, hwm⟩ := w_
  have hstep := pass_step (C' := fun S => (StDone p S i ∧ StName p S i false L) ∧ StName p S i true (L1.take (k + 1))) hI3 hP3 hwi hy (hL1 nm (mAt hnm) j hj) (m' := p.rels.length + L.length + (k + 1)) (by simp; omega) (by omega) fun hc e hle => ⟨hc.1, hc.2.snoc hnm hj (by rw [← e]; exact hwi) (by rw [← e]; exact hy) hle⟩
  refine eIn hel4 ?_
  have hfind := l14Find_spec (s := nm) hpR
  rw [hj] at hfind
  refine cGv hfind ?_
  refine idxV j rfl (by omega) ?_
  refine oIn [.int .i64 y] rfl (rowN_cell hy) ?_
  refine nEq (x := ((y + 1 : Nat) : Int)) (by rw [wrap64 (by omega) (by omega)]; omega) ?_
  refine cOw (l17Raise_spec (w := y + 1) hI3.len hwi) fun v5 μ5 h5 hle5 hap5 hR5 => ?_
  obtain ⟨e5, hR5⟩ := hR5
  subst e5
  rcases hR5 with ⟨hlt5, rfl, rfl⟩ | ⟨hge5, rfl, rfl⟩
  ·refine iIn (fun _ => ?_) (fun h => nomatch h)
   have h6 := hstep.1 hlt5
   exact num64 (by omega) (by omega) ⟨(k + 1, S.set i (y + 1), true), ⟨by dsimp only; omega, h6.1, fun a ha => by dsimp only; rw [set_ne_at ha]; exact hback a ha, h6.2⟩, by dsimp only; omega, ⟨⟨rfl, rfl, rfl, rfl, rfl, rfl, rfl, rfl, rfl, rfl, trivial⟩, ⟨rfl, trivial⟩, rfl, rfl⟩⟩
  ·refine iIn (fun h => nomatch h) (fun _ => ?_)
   have h6 := hstep.2 hge5
   exact num64 (by omega) (by omega) ⟨(k + 1, S, ch), ⟨by dsimp only; omega, h6.1, hback, h6.2⟩, by dsimp only; omega, ⟨⟨rfl, rfl, rfl, rfl, rfl, rfl, rfl, rfl, rfl, rfl, trivial⟩, ⟨rfl, trivial⟩, rfl, rfl⟩⟩
 obtain rfl : k = L1.length := by omega
 rw [List.take_length] at hP3
 have w_ := hI3.at (i := i) (by omega)
 obtain ⟨w, hwi, hwm⟩ := w_
 refine idxV i rfl (by omega) ?_
 refine oIn [.int .i64 w] rfl (rowN_cell hwi) ?_
 refine ifd (fun hbad => ?_) (fun hgood => ?_)
 ·refine rPl ?_
  rw [hI3.bad hok hwi (by omega)]
  rfl
 ·refine num64 (by omega) (by omega) ⟨(i + 1, S, ch, μ4), ⟨by dsimp only; omega, hI3.up (by omega), le_back hback hmx1 hwi (by omega), (hle1.trans hle3).trans hle4, hr4, ⟨fun e => ?_, hP3.more, hP3.grew⟩⟩, by dsimp only; omega, ⟨⟨rfl, rfl, rfl, rfl, rfl, rfl, trivial⟩, ⟨rfl, trivial⟩, rfl, rfl⟩⟩
  have w_ := hP3.same e
  obtain ⟨h1, ⟨h2, h3⟩, h4⟩ := w_
  exact ⟨h1, h2.next hx (by rw [hLd]; exact h3) (by rw [hLd1]; exact h4)⟩
set_option maxHeartbeats 4000000 in
theorem impl_Strata_spec {p : Pg} {v : Value} (hp : RepV μ p.d v) : Spec Tryz.prog 112 [v] μ fun v μ' => optNs (NsV μ') (strataO p) v := by
 have hp0 := hp
 have w_ := Pg.inv hp
 obtain ⟨q, rfl, hrl⟩ := w_
 refine Spec.mkO [19] Tryz.func112 (by kernel_rfl) ?_
 intro r1
 refine cPl (impl_ProgramOk_spec hp0) fun v1 μ1 hle0 hR => ?_
 obtain rfl := hR
 refine ifnd (fun h => rPl (by rw [strataO, if_neg fun k => h k.1]; rfl)) (fun hok => ?_)
 have h8 := hok.1
 refine make_intro p.rels.length rfl rfl (by simp only; omega) (Nat.le_trans (m := 8) h8 (by decide)) ?_
 intro r18 hm18 ho18
 refine lIn (fun z : List Nat × Bool × Mem => StI p z.1 1000 ∧ (∀ k ∈ z.1, k ≤ p.rels.length) ∧ μ1.Le z.2.2 ∧ z.2.2 r18 = none ∧ (z.2.1 = false → StDone p z.1 p.rels.length))
  (fun (S, ch, μ') => ⟨[(1, .loc 0 r1 0), (4, .val (.slice (some ⟨r18, 0, none⟩) p.rels.length p.rels.length)), (5, .val (.bool ch))], [(0, some (.cells r1 [.val (.slice q.1 p.rels.length q.2)] 32))], 1, μ', rowN r18 S⟩) (fun z => if z.2.1 = true then p.rels.length * p.rels.length + 1 - z.1.sum else 0)
  (List.replicate p.rels.length 0, true, μ1) ⟨StI.start p 1000, fun k hk => ?_, Mem.Le.refl _, hm18, fun h => nomatch h⟩ (fun (_, _, _) => ⟨rfl, rfl⟩) ⟨⟨rfl, rfl, rfl, trivial⟩, ⟨rfl, trivial⟩, rfl, zeroRow r18 p.rels.length⟩ ?_
 ·have h := List.mem_replicate.1 hk
  omega
 rintro ⟨S0, ch0, μ'⟩ ⟨hI, hmx, hle, hr, hd⟩
 dsimp only at hI hmx hle hr hd
 refine iIn (fun hch => ?_) (fun hch => ?_)
 rotate_left
 ·refine ret_own (rowN r18 S0) Mem.nil (Parts.nil_right _) ?_
  have hd := hd hch
  rw [hI.done hok fun b i j x y hc hx hy => hd i (by have := (List.getElem?_eq_some_iff.1 hx).1; have := hI.len; omega) b j x y hc hx hy]
  exact ⟨_, rfl, rowN_rep hr hI.len (Nat.le_trans (m := 8) h8 (by decide))⟩
 refine lIn (fun z : Nat × List Nat × Bool × Mem => z.1 ≤ p.rels.length ∧ StI p z.2.1 1000 ∧ (∀ k ∈ z.2.1, k ≤ p.rels.length) ∧ μ1.Le z.2.2.2 ∧ z.2.2.2 r18 = none ∧ PassI p S0 z.2.1 z.2.2.1 (fun S => StDone p S z.1))
  (fun (i, S, ch, μ') => ⟨[(1, .loc 0 r1 0), (4, .val (.slice (some ⟨r18, 0, none⟩) p.rels.length p.rels.length)), (5, .val (.bool ch)), (22, .val (.slice q.1 p.rels.length q.2)), (23, .val (.int .i64 p.rels.length)), (24, .val (.int .i64 i))], [(0, some (.cells r1 [.val (.slice q.1 p.rels.length q.2)] 32))], 1, μ', rowN r18 S⟩) (fun z => p.rels.length - z.1)
  (0, S0, false, μ') ⟨Nat.zero_le _, hI, hmx, hle, hr, ⟨fun _ => ⟨rfl, StDone.zero _ _⟩, Nat.le_refl _, fun h => nomatch h⟩⟩ (fun (_, _, _, _) => ⟨rfl, rfl⟩) ⟨⟨rfl, rfl, rfl, rfl, rfl, rfl, trivial⟩, ⟨rfl, trivial⟩, rfl, rfl⟩ ?_
 rintro ⟨i, S1, ch1, μ2⟩ ⟨hi, hI1, hmx1, hle1, hr1, hP1⟩
 dsimp only at hi hI1 hmx1 hle1 hr1 hP1
 refine ifd (fun hlt => ?_) (fun hlt => ?_)
 rotate_left
 ·obtain rfl : i = p.rels.length := by omega
  refine ⟨(S1, ch1, μ2), ⟨hI1, hmx1, hle1, hr1, fun e => ?_⟩, ?_, ⟨⟨rfl, rfl, rfl, trivial⟩, ⟨rfl, trivial⟩, rfl, rfl⟩⟩
  ·have w_ := hP1.same e
   obtain ⟨h1, h2⟩ := w_
   dsimp only
   rw [h1]; exact h2
  ·dsimp only
   rw [if_pos hch]
   have h2 : S1.sum ≤ p.rels.length * p.rels.length := by
    have := sum_leN (S := S1) (m := p.rels.length) hmx1
    rwa [hI1.len] at this
   have h3 : S0.sum ≤ p.rels.length * p.rels.length := by
    have := sum_leN (S := S0) (m := p.rels.length) hmx
    rwa [hI.len] at this
   by_cases e : ch1 = true
   ·have := hP1.grew e
    rw [if_pos e]; omega
   ·rw [if_neg e]; omega
 have w_ := aSo (l := p.rels) (i := i) (by omega)
 obtain ⟨x, hx⟩ := w_
 have hro := hok.2 i x hx
 have hsz := hro.size
 have hlen : ∀ b, (x.body.calls b).length ≤ 60 := fun b => Nat.le_trans (Gl.calls_len b x.body) hsz
 have hfit : ∀ b, ∀ s ∈ x.body.calls b, ∃ j : Nat, relAt p s = (j : Int) ∧ j < p.rels.length := fun b => Gl.calls_fit b hro.body hro.calls
 have hle02 := hle0.trans hle1
 have w_ := Rl.elemA (hrl.mono hle02) hx
 obtain ⟨ad, qr, hel, hrx, hbody⟩ := w_
 have hbody : RepV μ2 x.body.d (.agg (x.body.cs qr).toArray) := hbody
 refine eIn hel ?_
 intro r7
 have hcall : ∀ {μ'} (b : Bool), μ2.Le μ' → Spec Tryz.prog 180 [.agg (x.body.cs qr).toArray, .bool b, .bool false] μ' fun w μ'' => NmV μ'' (x.body.calls b) w := fun {μ'} b hl => callsOf_spec b x.body false (RepV.mono hl hbody) hro.body (by omega) fun h => nomatch h
 refine cDa (apN S1 hr1) (hcall false (Mem.Le.refl _)) fun v3 μ3 hle3 hap3 hR3 => ?_
 refine cDa hap3 (hcall true hle3) fun v4 μ4 hle4 hap4 hR4 => ?_
 replace hR3 := RepV.mono hle4 hR3
 have hr4 := apN_inv hap4
 have hle04 := hle02.trans (hle3.trans hle4)
 have w_ := NmV.sl hR3
 obtain ⟨b3, c3, rfl, hs3⟩ := w_
 have w_ := NmV.sl hR4
 obtain ⟨b4, c4, rfl, hs4⟩ := w_
 intro r35
 refine lIn (fun z : Nat × List Nat × Bool => z.1 ≤ 2 ∧ StI p z.2.1 (p.rels.length + 60 * z.1) ∧ (∀ j, j ≠ i → z.2.1[j]? = S1[j]?) ∧ PassI p S0 z.2.1 z.2.2 (fun S => StDone p S i ∧ ∀ b : Bool, b.toNat < z.1 → StName p S i b (x.body.calls b)))
  (fun (kk, S, ch) => ⟨[(1, .loc 0 r1 0), (4, .val (.slice (some ⟨r18, 0, none⟩) p.rels.length p.rels.length)), (5, .val (.bool ch)), (6, .val (.int .i64 i)), (22, .val (.slice q.1 p.rels.length q.2)), (23, .val (.int .i64 p.rels.length)), (24, .val (.int .i64 i)), (35, .row 2 (some r35) 2 2), (36, .val (.int .i64 2)), (37, .val (.int .i64 kk))],
   [(0, some (.cells r1 [.val (.slice q.1 p.rels.length q.2)] 32)), (2, some (.row (some r35) 2 178 1 [.slice b3 (x.body.calls false).length c3, .slice b4 (x.body.calls true).length c4]))], 3, μ4, rowN r18 S⟩) (fun z => 2 - z.1)
  (0, S1, ch1) ⟨Nat.zero_le _, ⟨hI1.len, hmx1, hI1.low⟩, fun _ _ => rfl, ⟨fun e => ⟨(hP1.same e).1, (hP1.same e).2, fun b hb => absurd hb (Nat.not_lt_zero _)⟩, hP1.more, hP1.grew⟩⟩ (fun (_, _, _) => ⟨rfl, rfl⟩) ⟨⟨rfl, rfl, rfl, rfl, rfl, rfl, rfl, rfl, rfl, rfl, trivial⟩, ⟨rfl, rfl, trivial⟩, rfl, rfl⟩ ?_
 rintro ⟨kk, S, ch⟩ ⟨hkk, hI3, hback, hP3⟩
 dsimp only at hkk hI3 hback hP3
 have hpR := hp0.mono hle04
 refine ifd (fun hlt3 => ?_) (fun hlt3 => ?_)
 ·have w_ : ∃ (bb : Bool) (b' : Option Addr) (c' : Nat), bb.toNat = kk ∧ [Value.slice b3 (x.body.calls false).length c3, .slice b4 (x.body.calls true).length c4][kk]? = some (.slice b' (x.body.calls bb).length c') ∧ Sl μ4 1 b' (x.body.calls bb).length ((x.body.calls bb).map D.s) := by
   have h2 : kk = 0 ∨ kk = 1 := by omega
   rcases h2 with rfl | rfl
   ·exact ⟨false, b3, c3, rfl, rfl, hs3⟩
   ·exact ⟨true, b4, c4, rfl, rfl, hs4⟩
  obtain ⟨bb, b', c', rfl, hget, hsL⟩ := w_
  have hl0 := hlen bb
  have hf0 := hfit bb
  have hL0 : ∀ s ∈ x.body.calls bb, ∀ j : Nat, relAt p s = (j : Int) → calls2 bb p i j := fun s hs j e => ⟨x, hx, s, hs, e⟩
  have hbn : bb.toNat ≤ 1 := by cases bb <;> simp
  generalize hLd : x.body.calls bb = L at hget hsL hl0 hf0 hL0
  refine rel_intro bb.toNat rfl (by omega) (get_intro _ hget ?_)
  refine lIn (fun z : Nat × List Nat × Bool => z.1 ≤ L.length ∧ StI p z.2.1 (p.rels.length + 60 * bb.toNat + z.1) ∧ (∀ j, j ≠ i → z.2.1[j]? = S1[j]?) ∧ PassI p S0 z.2.1 z.2.2 (fun S => (StDone p S i ∧ ∀ b : Bool, b.toNat < bb.toNat → StName p S i b (x.body.calls b)) ∧ StName p S i bb (L.take z.1)))
   (fun (k, S, ch) => ⟨[(1, .loc 0 r1 0), (4, .val (.slice (some ⟨r18, 0, none⟩) p.rels.length p.rels.length)), (5, .val (.bool ch)), (6, .val (.int .i64 i)), (8, .val (.int .i64 bb.toNat)), (22, .val (.slice q.1 p.rels.length q.2)), (23, .val (.int .i64 p.rels.length)), (24, .val (.int .i64 i)), (35, .row 2 (some r35) 2 2), (36, .val (.int .i64 2)), (37, .val (.int .i64 bb.toNat)), (42, .val (.slice b' L.length c')), (43, .val (.int .i64 L.length)), (44, .val (.int .i64 k))],
    [(0, some (.cells r1 [.val (.slice q.1 p.rels.length q.2)] 32)), (2, some (.row (some r35) 2 178 1 [.slice b3 (x.body.calls false).length c3, .slice b4 (x.body.calls true).length c4]))], 3, μ4, rowN r18 S⟩) (fun z => L.length - z.1)
   (0, S, ch) ⟨Nat.zero_le _, hI3, hback, ⟨fun e => ⟨(hP3.same e).1, (hP3.same e).2, StName.nil _ _ _ _ _⟩, hP3.more, hP3.grew⟩⟩ (fun (_, _, _) => ⟨rfl, rfl⟩) ⟨⟨rfl, rfl, rfl, rfl, rfl, rfl, rfl, rfl, rfl, rfl, rfl, rfl, rfl, rfl, trivial⟩, ⟨rfl, rfl, trivial⟩, rfl, rfl⟩ ?_
  clear hP3 hI3 hback
  rintro ⟨k, S, ch⟩ ⟨hk, hI3, hback, hP3⟩
  dsimp only at hk hI3 hback hP3
  refine ifd (fun hlt4 => ?_) (fun hlt4 => ?_)
  ·have w_ := aSo (l := L) (i := k) (by omega)
   obtain ⟨nm, hnm⟩ := w_
   have w_ := Nm.elem hsL hnm
   obtain ⟨ad4, hel4⟩ := w_
   have w_ := hf0 nm (mAt hnm)
   obtain ⟨j, hj, hjl⟩ := w_
   have w_ := hI3.at (i := j) hjl
   obtain ⟨y, hy, hym⟩ := w_
   have w_ := hI3.at (i := i) (by omega)
   obtain ⟨w, hwi, hwm⟩ := w_
   have hstep := pass_step (C' := fun S => (StDone p S i ∧ ∀ b : Bool, b.toNat < bb.toNat → StName p S i b (x.body.calls b)) ∧ StName p S i bb (L.take (k + 1))) hI3 hP3 hwi hy (hL0 nm (mAt hnm) j hj) (m' := p.rels.length + 60 * bb.toNat + (k + 1)) (by omega) (by omega) fun hc e hle => ⟨hc.1, hc.2.snoc hnm hj (by rw [← e]; exact hwi) (by rw [← e]; exact hy) hle⟩
   refine eIn hel4 ?_
   have hfind := relation_spec (s := nm) hpR
   rw [hj] at hfind
   refine cGv hfind ?_
   refine idxV j rfl (by omega) ?_
   refine oIn [.int .i64 y] rfl (rowN_cell hy) ?_
   refine nEq (x := ((y + bb.toNat : Nat) : Int)) (by rw [wrap64 (by omega) (by omega)]; omega) ?_
   refine idxV i rfl (by omega) ?_
   refine oIn [.int .i64 w] rfl (rowN_cell hwi) ?_
   refine ifd (fun hlt5 => ?_) (fun hge5 => ?_)
   ·have h6 := hstep.1 (by omega)
    refine idxV i rfl (by omega) ?_
    refine sIn (S.map fun k : Nat => Value.int .i64 (k : Int)) 3 (Mem.set_at _ _ _) rfl (by have := hI3.len; simp; omega) ?_
    exact num64 (by omega) (by omega) ⟨(k + 1, S.set i (y + bb.toNat), true), ⟨by dsimp only; omega, h6.1, fun a ha => by dsimp only; rw [set_ne_at ha]; exact hback a ha, h6.2⟩, by dsimp only; omega, ⟨⟨rfl, rfl, rfl, rfl, rfl, rfl, rfl, rfl, rfl, rfl, rfl, rfl, rfl, rfl, trivial⟩, ⟨rfl, rfl, trivial⟩, rfl, rowN_set (by have := hI3.len; omega)⟩⟩
   ·have h6 := hstep.2 (by omega)
    exact num64 (by omega) (by omega) ⟨(k + 1, S, ch), ⟨by dsimp only; omega, h6.1, hback, h6.2⟩, by dsimp only; omega, ⟨⟨rfl, rfl, rfl, rfl, rfl, rfl, rfl, rfl, rfl, rfl, rfl, rfl, rfl, rfl, trivial⟩, ⟨rfl, rfl, trivial⟩, rfl, rfl⟩⟩
  obtain rfl : k = L.length := by omega
  rw [List.take_length] at hP3
  refine num64 (by omega) (by omega) ⟨(bb.toNat + 1, S, ch), ⟨by dsimp only; omega, hI3.up (by omega), hback, ⟨fun e => ⟨(hP3.same e).1, (hP3.same e).2.1.1, fun b hb => ?_⟩, hP3.more, hP3.grew⟩⟩, by dsimp only; omega, ⟨⟨rfl, rfl, rfl, rfl, rfl, rfl, rfl, rfl, rfl, rfl, trivial⟩, ⟨rfl, rfl, trivial⟩, rfl, rfl⟩⟩
  have h7 := (hP3.same e).2
  rcases Nat.lt_or_ge b.toNat bb.toNat with h8' | h8'
  ·exact h7.1.2 b h8'
  ·obtain rfl : b = bb := by cases b <;> cases bb <;> simp_all
   rw [hLd]; exact h7.2
 obtain rfl : kk = 2 := by omega
 have w_ := hI3.at (i := i) (by omega)
 obtain ⟨w, hwi, hwm⟩ := w_
 refine idxV i rfl (by omega) ?_
 refine oIn [.int .i64 w] rfl (rowN_cell hwi) ?_
 refine ifd (fun hbad => ?_) (fun hgood => ?_)
 ·refine rPl ?_
  rw [hI3.bad hok hwi (by omega)]
  rfl
 ·refine num64 (by omega) (by omega) ⟨(i + 1, S, ch, μ4), ⟨by dsimp only; omega, hI3.up (by omega), fun k hk => ?_, hle1.trans (hle3.trans hle4), hr4, ⟨fun e => ?_, hP3.more, hP3.grew⟩⟩, by dsimp only; omega, ⟨⟨rfl, rfl, rfl, rfl, rfl, rfl, trivial⟩, ⟨rfl, trivial⟩, rfl, rfl⟩⟩
  ·have := le_back (m := p.rels.length + 1) hback (fun k hk => by have := hmx1 k hk; omega) hwi (by omega) k hk
   omega
  ·have w_ := hP3.same e
   obtain ⟨h1, h2, h3⟩ := w_
   exact ⟨h1, h2.next hx (h3 false (by decide)) (h3 true (by decide))⟩
end
end Go.Vx
namespace Go.Vx
open Go.Proofs Classical
noncomputable def ownT (p : Pg) (S : List Nat) (rs : List Ru) (s i : Nat) : List Ru := (rs.take i).filter fun r => decide (strIdx p S r = s)
theorem ownT_succ {p : Pg} {S : List Nat} {rs : List Ru} {s i : Nat} {r : Ru} (h : rs[i]? = some r) : ownT p S rs s (i + 1) = ownT p S rs s i ++ (if strIdx p S r = s then [r] else []) := by
 rw [ownT, List.take_add_one, h, Option.toList_some, List.filter_append, ← ownT]
 congr 1
 by_cases e : strIdx p S r = s <;> simp [e]
theorem ownT_all (p : Pg) (S : List Nat) (rs : List Ru) (s : Nat) : ownT p S rs s rs.length = ownR p S rs s := by rw [ownT, List.take_length, ownR]
theorem ownT_len (p : Pg) (S : List Nat) (rs : List Ru) (s i : Nat) : (ownT p S rs s i).length ≤ i := Nat.le_trans (List.length_filter_le _ _) (List.length_take_le _ _)
noncomputable def firedL (p : Pg) (S : List Nat) (rs : List Ru) (s : Nat) (out B : List F) (i : Nat) : List F := ((rs.take i).filter fun r => decide (strIdx p S r = s ∧ fires out B r)).map Ru.head
theorem firedL_succ {p : Pg} {S : List Nat} {rs : List Ru} {s i : Nat} {out B : List F} {r : Ru} (h : rs[i]? = some r) : firedL p S rs s out B (i + 1) = firedL p S rs s out B i ++ (if strIdx p S r = s ∧ fires out B r then [r.head] else []) := by
 rw [firedL, List.take_add_one, h, Option.toList_some, List.filter_append, List.map_append, ← firedL]
 congr 1
 by_cases e : strIdx p S r = s ∧ fires out B r
 ·rw [if_pos e, List.filter_cons_of_pos (by simpa using e)]; rfl
 ·rw [if_neg e, List.filter_cons_of_neg (by simpa using e)]; rfl
theorem firedL_len (p : Pg) (S : List Nat) (rs : List Ru) (s : Nat) (out B : List F) (i : Nat) : (firedL p S rs s out B i).length ≤ i := by
 rw [firedL, List.length_map]
 exact Nat.le_trans (List.length_filter_le _ _) (List.length_take_le _ _)
theorem firedL_grow (p : Pg) (S : List Nat) (rs : List Ru) (s : Nat) (out B : List F) : ascF (out ++ firedL p S rs s out B rs.length) = growF (unlessR (ownR p S rs s) B) out := Asc3.uniq cmpF_ord (ascF_asc _) (ascF_asc _) fun f => by
 show _ ↔ f ∈ growF _ out
 rw [mem_growF, mem_ascF, List.mem_append, firedL, List.take_length, List.mem_map]
 constructor
 ·rintro (h | ⟨r, h1, h2⟩)
  ·exact .inl h
  ·rw [List.mem_filter, decide_eq_true_eq] at h1
   exact .inr ⟨r, mem_unlessR.2 ⟨List.mem_filter.2 ⟨h1.1, by simpa using h1.2.1⟩, h1.2.2.2⟩, h1.2.2.1, h2⟩
 ·rintro (h | ⟨r, h1, h2, h3⟩)
  ·exact .inl h
  ·rw [mem_unlessR] at h1
   have w_ := List.mem_filter.1 h1.1
   obtain ⟨h4, h5⟩ := w_
   exact .inr ⟨r, List.mem_filter.2 ⟨h4, by rw [decide_eq_true_eq]; exact ⟨by simpa using h5, h2, h1.2⟩⟩, h3⟩
theorem ownU_len (p : Pg) (S : List Nat) (rs : List Ru) (s : Nat) (B : List F) : (unlessR (ownR p S rs s) B).length ≤ rs.length := Nat.le_trans (unlessR_len _ _) (List.length_filter_le _ _)
theorem strIdx_at {p : Pg} {S : List Nat} {r : Ru} (hS : strataO p = some S) (hr : RuOk p r) : ∃ k : Nat, relAt p r.head.rel = (k : Int) ∧ k < p.rels.length ∧ S[k]? = some (strIdx p S r) := by
 obtain ⟨⟨k, rl, h1, h2, _⟩, _⟩ := hr.head
 have h1 : relAt p r.head.rel = (k : Int) := h1
 have hk := (List.getElem?_eq_some_iff.1 h2).1
 refine ⟨k, h1, hk, ?_⟩
 rw [strataO] at hS
 split at hS
 ·cases hS
  rw [strIdx, h1, Int.toNat_natCast, List.getD_eq_getElem?_getD, List.getElem?_map, List.getElem?_range hk]; rfl
 ·cases hS
section
variable {μ : Mem}
theorem NsV.sl {S : List Nat} {v : Value} (h : NsV μ S v) : ∃ b c, v = .slice b S.length c ∧ Sl μ 1 b S.length ((S.map fun k : Nat => (k : Int)).map D.i) := by
 have w_ := Rep.sl h
 obtain ⟨b, c, rfl, hs⟩ := w_
 rw [List.length_map, List.length_map] at hs
 exact ⟨b, c, by rw [List.length_map, List.length_map], hs⟩
theorem Ns.elem {S : List Nat} {b : Option Addr} {n k x : Nat} (h : Sl μ 1 b n ((S.map fun k : Nat => (k : Int)).map D.i)) (hx : S[k]? = some x) : ∃ ad, ElemAt μ b n 1 k ad [.int .i64 (x : Int)] := Ints.elem h (by simp [hx])
set_option maxHeartbeats 2000000 in
theorem spec_StratifiedModel_spec {p : Pg} {u : List Tm} {v : Value} {ub : Option Addr} {uc : Nat} (hp : RepV μ p.d v) (hw : p.d.wd) (hu : Sl μ 4 ub u.length (u.map Tm.d)) (hwu : D.wds (u.map Tm.d)) :
  Spec Tryz.prog 49 [v, .slice ub u.length uc] μ fun v μ' => optFs (fun y tv => FsV μ' y tv) (stratM p u) v := by
 have hp0 := hp
 have w_ := Pg.inv hp
 obtain ⟨q, rfl, hrl⟩ := w_
 refine Spec.mk Tryz.func49 (by kernel_rfl) ?_
 intro r2
 refine cPl (spec_Strata_spec hp0 hw) fun v1 μ1 hle1 hR1 => ?_
 cases hS : strataO p with
 | none =>
  rw [hS] at hR1
  obtain rfl := hR1
  refine cPl (spec_GroundRules_spec (hp0.mono hle1) hw (hu.mono hle1) hwu) fun v2 μ2 hle2 hR2 => ?_
  have e : stratM p u = none := by rw [stratM, hS]; rfl
  cases hL : groundO p u with
  | none =>
   rw [hL] at hR2
   obtain rfl := hR2
   exact iIn (fun _ => rPl (by rw [e]; rfl)) (fun h => nomatch h)
  | some rs =>
   rw [hL] at hR2
   obtain ⟨tv, rfl, hR2⟩ := hR2
   exact iIn (fun _ => rPl (by rw [e]; rfl)) (fun h => nomatch h)
 | some S =>
 rw [hS] at hR1
 obtain ⟨sv, rfl, hSV⟩ := hR1
 have hSV : NsV μ1 S sv := hSV
 refine cPl (spec_GroundRules_spec (hp0.mono hle1) hw (hu.mono hle1) hwu) fun v2 μ2 hle2 hR2 => ?_
 cases hL : groundO p u with
 | none =>
  rw [hL] at hR2
  obtain rfl := hR2
  refine iIn (fun h => nomatch h) (fun _ => ?_)
  exact iIn (fun _ => rPl (by rw [stratM, hS, Option.bind_some, hL]; rfl)) (fun h => nomatch h)
 | some rs =>
 rw [hL] at hR2
 obtain ⟨tv, rfl, hR2⟩ := hR2
 have hR2 : RsV μ2 rs tv := hR2
 have w_ := RsV.sl hR2
 obtain ⟨b1, c1, rfl, hrs⟩ := w_
 have w_ := NsV.sl hSV
 obtain ⟨bS, cS, rfl, hsS⟩ := w_
 have w_ := groundO_ok hL
 obtain ⟨hrl2, hro⟩ := w_
 have hpo := (groundO_some hL).1
 have hp8 := hpo.1
 have hres : stratM p u = some (strF p S rs p.rels.length) := by rw [stratM, hS, Option.bind_some, hL]; rfl
 refine iIn (fun h => nomatch h) (fun _ => ?_)
 refine iIn (fun h => nomatch h) (fun _ => ?_)
 intro r33
 refine lFz (fun z : Nat × Option Addr × Nat × Mem => z.1 ≤ p.rels.length ∧ μ2.Le z.2.2.2 ∧ FsV z.2.2.2 (strF p S rs z.1) (.slice z.2.1 (strF p S rs z.1).length z.2.2.1))
  (fun (s, b4, c4, μ') => ⟨[(2, .loc 0 r2 0), (6, .val (.slice bS S.length cS)), (8, .val (.slice b1 rs.length c1)), (10, .val (.slice b4 (strF p S rs s).length c4)), (11, .val (.int .i64 s))], [(0, some (.cells r2 [.val (.slice q.1 p.rels.length q.2)] 32))], 1, μ', Mem.nil⟩) (fun z => p.rels.length - z.1) [1]
  (fun (_, _, _, _) => ⟨rfl, rfl⟩) (fun μ3 hle3 hno3 hat3 => ⟨(0, some ⟨r33, 0, none⟩, 0, μ3), ⟨Nat.zero_le _, hle3, FsV.nil _ _⟩, ⟨rfl, rfl, rfl, rfl, rfl, trivial⟩, ⟨rfl, trivial⟩, rfl, rfl⟩) ?_
 rintro ⟨s, b4, c4, μ3⟩ ⟨hs, hle3, hout0⟩
 dsimp only at hs hle3 hout0
 refine ifd (fun hlt => ?_) (fun hlt => ?_)
 rotate_left
 ·obtain rfl : s = p.rels.length := by omega
  have w_ := FsV.sl hout0
  obtain ⟨b5, c5, e, -, hs5⟩ := w_
  have w_ := Value.slice.inj e
  obtain ⟨rfl, _, rfl⟩ := w_
  have hk := stratM_ok hres
  refine cPl (l18Copy_spec hs5 (by omega) fun f hf => Nat.le_trans (hk.2.1.len hk.1 f hf) (by decide)) fun v4 μ4 hle4 hR4 => ?_
  refine rPl ?_
  rw [hres]
  exact ⟨_, rfl, hR4⟩
 have hBn := strF_len (p := p) (S := S) (rs := rs) s
 have hBa := strF_asc (p := p) (S := S) (rs := rs) s
 have hBs : strF p S rs (s + 1) = lfp (unlessR (ownR p S rs s) (strF p S rs s)) (strF p S rs s) := rfl
 generalize hB : strF p S rs s = B at *
 have w_ := FsV.sl hout0
 obtain ⟨b6, c6, e, -, hsB⟩ := w_
 have w_ := Value.slice.inj e
 obtain ⟨rfl, _, rfl⟩ := w_
 have hRn := ownU_len p S rs s B
 have hst := BasI.start (unlessR (ownR p S rs s) B) B
 rw [ascF_id hBa] at hst
 refine lIn (fun z : List F × Option Addr × Nat × Mem => BasI (unlessR (ownR p S rs s) B) B z.1 ∧ μ3.Le z.2.2.2 ∧ FsV z.2.2.2 z.1 (.slice z.2.1 z.1.length z.2.2.1))
  (fun (out, b5, c5, μ') => ⟨[(2, .loc 0 r2 0), (6, .val (.slice bS S.length cS)), (8, .val (.slice b1 rs.length c1)), (10, .val (.slice b5 out.length c5)), (11, .val (.int .i64 s)), (12, .val (.slice b4 B.length c4))], [(0, some (.cells r2 [.val (.slice q.1 p.rels.length q.2)] 32))], 1, μ', Mem.nil⟩) (fun z => B.length + rs.length - z.1.length)
  (B, b4, c4, μ3) ⟨hst, Mem.Le.refl _, hout0⟩ (fun (_, _, _, _) => ⟨rfl, rfl⟩) ⟨⟨rfl, rfl, rfl, rfl, rfl, rfl, trivial⟩, ⟨rfl, trivial⟩, rfl, rfl⟩ ?_
 rintro ⟨out, b5, c5, μ4⟩ ⟨hI, hle4, hout⟩
 dsimp only at hI hle4 hout
 have w_ := FsV.sl hout
 obtain ⟨b7, c7, e, -, hso⟩ := w_
 have w_ := Value.slice.inj e
 obtain ⟨rfl, _, rfl⟩ := w_
 have hol := hI.len
 refine lIn (fun z : Nat × Option Addr × Nat × Mem => z.1 ≤ rs.length ∧ μ4.Le z.2.2.2 ∧ FsV z.2.2.2 (ascF (out ++ firedL p S rs s out B z.1)) (.slice z.2.1 (ascF (out ++ firedL p S rs s out B z.1)).length z.2.2.1))
  (fun (i, b8, c8, μ') => ⟨[(2, .loc 0 r2 0), (6, .val (.slice bS S.length cS)), (8, .val (.slice b1 rs.length c1)), (10, .val (.slice b5 out.length c5)), (11, .val (.int .i64 s)), (12, .val (.slice b4 B.length c4)), (13, .val (.slice b8 (ascF (out ++ firedL p S rs s out B i)).length c8)), (43, .val (.slice b1 rs.length c1)), (44, .val (.int .i64 rs.length)), (45, .val (.int .i64 i))], [(0, some (.cells r2 [.val (.slice q.1 p.rels.length q.2)] 32))], 1, μ', Mem.nil⟩) (fun z => rs.length - z.1)
  (0, b5, c5, μ4) ⟨Nat.zero_le _, Mem.Le.refl _, ?_⟩ (fun (_, _, _, _) => ⟨rfl, rfl⟩) ⟨⟨rfl, rfl, rfl, rfl, rfl, rfl, ?_, rfl, rfl, rfl, trivial⟩, ⟨rfl, trivial⟩, rfl, rfl⟩ ?_
 ·have e0 : ascF (out ++ firedL p S rs s out B 0) = out := by simp [firedL, ascF_id hI.asc]
  dsimp only; rw [e0]; exact hout
 ·have e0 : ascF (out ++ firedL p S rs s out B 0) = out := by simp [firedL, ascF_id hI.asc]
  dsimp only; rw [e0]; rfl
 rintro ⟨i, b8, c8, μ5⟩ ⟨hi, hle5, hacc⟩
 dsimp only at hi hle5 hacc
 have hal : (ascF (out ++ firedL p S rs s out B i)).length ≤ out.length + i := by
  have h1 := ascF_len (out ++ firedL p S rs s out B i)
  have h2 := firedL_len p S rs s out B i
  rw [List.length_append] at h1
  omega
 refine ifd (fun hlt2 => ?_) (fun hlt2 => ?_)
 ·have w_ := aSo (l := rs) (i := i) (by omega)
  obtain ⟨r, hri⟩ := w_
  have hle35 := (hle3.trans hle4).trans hle5
  have w_ := Ru.elem (hrs.mono hle35) hri
  obtain ⟨ad, pr, hel, hrv, hat⟩ := w_
  have hsucc := firedL_succ (p := p) (S := S) (s := s) (out := out) (B := B) hri
  have w_ := strIdx_at hS (hro r (mAt hri))
  obtain ⟨k, hk, hkl, hkS⟩ := w_
  have w_ := Ns.elem (hsS.mono (hle2.trans hle35)) hkS
  obtain ⟨ad2, hel2⟩ := w_
  refine eIn hel ?_
  intro r15
  have hfind := l14Find_spec (s := r.head.rel) (hp0.mono ((hle1.trans hle2).trans hle35))
  rw [hk] at hfind
  refine cGv hfind ?_
  refine eIn hel2 ?_
  refine ifd (fun hidx => ?_) (fun hidx => ?_)
  ·refine cGv (l19Fires_spec hrv (hso.mono hle5) (hsB.mono (hle4.trans hle5))) ?_
   refine ifd (fun hf => ?_) (fun hf => ?_)
   ·rw [if_pos ⟨by omega, hf⟩] at hsucc
    refine cPl (l18Insert_spec (ascF_asc _) hacc hat.head (by omega)) fun v6 μ6 hle6 hR6 => ?_
    have e : insF (ascF (out ++ firedL p S rs s out B i)) r.head = ascF (out ++ firedL p S rs s out B (i + 1)) := ascF_congr fun x => by
     rw [List.mem_cons, mem_ascF, hsucc, ← List.append_assoc, List.mem_append (s := out ++ _), List.mem_singleton]; exact Or.comm
    rw [e] at hR6
    have w_ := FsV.sl hR6
    obtain ⟨b9, c9, rfl, -, -⟩ := w_
    exact num64 (by omega) (by omega) ⟨(i + 1, b9, c9, μ6), ⟨by dsimp only; omega, hle5.trans hle6, hR6⟩, by dsimp only; omega, ⟨⟨rfl, rfl, rfl, rfl, rfl, rfl, rfl, rfl, rfl, rfl, trivial⟩, ⟨rfl, trivial⟩, rfl, rfl⟩⟩
   ·rw [if_neg (fun k => hf k.2), List.append_nil] at hsucc
    refine num64 (by omega) (by omega) ⟨(i + 1, b8, c8, μ5), ⟨by dsimp only; omega, hle5, ?_⟩, by dsimp only; omega, ⟨⟨rfl, rfl, rfl, rfl, rfl, rfl, ?_, rfl, rfl, rfl, trivial⟩, ⟨rfl, trivial⟩, rfl, rfl⟩⟩
    ·dsimp only; rw [hsucc]; exact hacc
    ·dsimp only; rw [hsucc]; rfl
  ·rw [if_neg (fun k => hidx (by omega)), List.append_nil] at hsucc
   refine num64 (by omega) (by omega) ⟨(i + 1, b8, c8, μ5), ⟨by dsimp only; omega, hle5, ?_⟩, by dsimp only; omega, ⟨⟨rfl, rfl, rfl, rfl, rfl, rfl, ?_, rfl, rfl, rfl, trivial⟩, ⟨rfl, trivial⟩, rfl, rfl⟩⟩
   ·dsimp only; rw [hsucc]; exact hacc
   ·dsimp only; rw [hsucc]; rfl
 obtain rfl : i = rs.length := by omega
 rw [firedL_grow] at hacc hal ⊢
 have hgl := hI.next.len
 refine ifd (fun he => ?_) (fun he => ?_)
 ·have hfin := hI.done (by omega)
  rw [← hBs] at hfin
  refine num64 (by omega) (by omega) ⟨[], (s + 1, b5, c5, μ5), ⟨by dsimp only; omega, (hle3.trans hle4).trans hle5, ?_⟩, by dsimp only; omega, ⟨⟨rfl, rfl, rfl, ?_, rfl, trivial⟩, ⟨rfl, trivial⟩, rfl, rfl⟩⟩
  ·dsimp only; rw [← hfin]; exact RepV.mono hle5 hout
  ·dsimp only; rw [← hfin]; rfl
 ·have hmore := hI.more (by omega)
  exact ⟨(growF (unlessR (ownR p S rs s) B) out, b8, c8, μ5), ⟨hI.next, hle4.trans hle5, hacc⟩, by dsimp only; omega, ⟨⟨rfl, rfl, rfl, rfl, rfl, rfl, trivial⟩, ⟨rfl, trivial⟩, rfl, rfl⟩⟩
set_option maxHeartbeats 2000000 in
theorem impl_StratifiedModel_spec {p : Pg} {u : List Tm} {v : Value} {ub : Option Addr} {uc : Nat} (hp : RepV μ p.d v) (hu : Sl μ 4 ub u.length (u.map Tm.d)) :
  Spec Tryz.prog 50 [v, .slice ub u.length uc] μ fun v μ' => optFs (fun y tv => Fresh μ μ' (.sl 2 ((y.map F.fc).map Fc.d)) tv) (stratM p u) v := by
 have hp0 := hp
 have w_ := Pg.inv hp
 obtain ⟨q, rfl, hrl⟩ := w_
 refine Spec.mk Tryz.func50 (by kernel_rfl) ?_
 intro r2
 refine cPl (impl_Strata_spec hp0) fun v1 μ1 hle1 hR1 => ?_
 cases hS : strataO p with
 | none =>
  rw [hS] at hR1
  obtain rfl := hR1
  refine cPl (rulesFor_spec (hp0.mono hle1) (hu.mono hle1)) fun v2 μ2 hle2 hR2 => ?_
  have e : stratM p u = none := by rw [stratM, hS]; rfl
  cases hL : groundO p u with
  | none =>
   rw [hL] at hR2
   obtain rfl := hR2
   exact iIn (fun _ => rPl (by rw [e]; rfl)) (fun h => nomatch h)
  | some rs =>
   rw [hL] at hR2
   obtain ⟨tv, rfl, hR2⟩ := hR2
   exact iIn (fun _ => rPl (by rw [e]; rfl)) (fun h => nomatch h)
 | some S =>
 rw [hS] at hR1
 obtain ⟨sv, rfl, hSV⟩ := hR1
 have hSV : NsV μ1 S sv := hSV
 refine cPl (rulesFor_spec (hp0.mono hle1) (hu.mono hle1)) fun v2 μ2 hle2 hR2 => ?_
 cases hL : groundO p u with
 | none =>
  rw [hL] at hR2
  obtain rfl := hR2
  refine iIn (fun h => nomatch h) (fun _ => ?_)
  exact iIn (fun _ => rPl (by rw [stratM, hS, Option.bind_some, hL]; rfl)) (fun h => nomatch h)
 | some rs =>
 rw [hL] at hR2
 obtain ⟨tv, rfl, hR2⟩ := hR2
 have hR2 : RsV μ2 rs tv := hR2
 have w_ := RsV.sl hR2
 obtain ⟨b1, c1, rfl, hrs⟩ := w_
 have w_ := NsV.sl hSV
 obtain ⟨bS, cS, rfl, hsS⟩ := w_
 have w_ := groundO_ok hL
 obtain ⟨hrl2, hro⟩ := w_
 have hpo := (groundO_some hL).1
 have hp8 := hpo.1
 have hres : stratM p u = some (strF p S rs p.rels.length) := by rw [stratM, hS, Option.bind_some, hL]; rfl
 refine iIn (fun h => nomatch h) (fun _ => ?_)
 refine iIn (fun h => nomatch h) (fun _ => ?_)
 intro r32
 refine lFz (fun z : Nat × Option Addr × Nat × Mem => z.1 ≤ p.rels.length + 1 ∧ μ2.Le z.2.2.2 ∧ FsV z.2.2.2 (strF p S rs z.1) (.slice z.2.1 (strF p S rs z.1).length z.2.2.1))
  (fun (s, b4, c4, μ') => ⟨[(2, .loc 0 r2 0), (6, .val (.slice bS S.length cS)), (8, .val (.slice b1 rs.length c1)), (10, .val (.slice b4 (strF p S rs s).length c4)), (11, .val (.int .i64 s))], [(0, some (.cells r2 [.val (.slice q.1 p.rels.length q.2)] 32))], 1, μ', Mem.nil⟩) (fun z => p.rels.length + 1 - z.1) [1]
  (fun (_, _, _, _) => ⟨rfl, rfl⟩) (fun μ3 hle3 hno3 hat3 => ⟨(0, some ⟨r32, 0, none⟩, 0, μ3), ⟨Nat.zero_le _, hle3, FsV.nil _ _⟩, ⟨rfl, rfl, rfl, rfl, rfl, trivial⟩, ⟨rfl, trivial⟩, rfl, rfl⟩) ?_
 rintro ⟨s, b4, c4, μ3⟩ ⟨hs, hle3, hout0⟩
 dsimp only at hs hle3 hout0
 refine ifd (fun hlt => ?_) (fun hlt => ?_)
 rotate_left
 ·obtain rfl : s = p.rels.length + 1 := by omega
  rw [strF_last hS hro] at hout0 ⊢
  have hk := stratM_ok hres
  refine cPl (copyFacts_spec hout0 (by omega) fun f hf => Nat.le_trans (hk.2.1.len hk.1 f hf) (by decide)) fun v4 μ4 hle4 hR4 => ?_
  refine rPl ?_
  rw [hres]
  exact ⟨_, rfl, hR4.mono ((hle1.trans hle2).trans hle3) (Mem.Le.refl _)⟩
 have hBn := strF_len (p := p) (S := S) (rs := rs) s
 have hBa := strF_asc (p := p) (S := S) (rs := rs) s
 have hBs : strF p S rs (s + 1) = lfp (unlessR (ownR p S rs s) (strF p S rs s)) (strF p S rs s) := rfl
 generalize hB : strF p S rs s = B at *
 have w_ := FsV.sl hout0
 obtain ⟨b6, c6, e, -, hsB⟩ := w_
 have w_ := Value.slice.inj e
 obtain ⟨rfl, _, rfl⟩ := w_
 have hRn := ownU_len p S rs s B
 intro r40
 refine lIn (fun z : Nat × Option Nat × Nat × List Value => z.1 ≤ rs.length ∧ Rows μ3 6 (((ownT p S rs s z.1).map Ru.rd).map RuD.d) z.2.2.2)
  (fun (i, bo, co, ys) => ⟨[(2, .loc 0 r2 0), (6, .val (.slice bS S.length cS)), (8, .val (.slice b1 rs.length c1)), (10, .val (.slice b4 B.length c4)), (11, .val (.int .i64 s)), (12, .row 1 bo ys.length co), (41, .val (.slice b1 rs.length c1)), (42, .val (.int .i64 rs.length)), (43, .val (.int .i64 i))], [(0, some (.cells r2 [.val (.slice q.1 p.rels.length q.2)] 32)), (1, some (.row bo co 126 6 ys))], 2, μ3, Mem.nil⟩) (fun z => rs.length - z.1)
  (0, some r40, 0, []) ⟨Nat.zero_le _, by simpa [ownT] using .nil⟩ (fun (_, _, _, _) => ⟨rfl, rfl⟩) ⟨⟨rfl, rfl, rfl, rfl, rfl, rfl, rfl, rfl, rfl, trivial⟩, ⟨rfl, rfl, trivial⟩, rfl, rfl⟩ ?_
 rintro ⟨i, bo, co, ys⟩ ⟨hi, hrows⟩
 dsimp only at hi hrows
 have hyl := hrows.len
 rw [List.length_map, List.length_map] at hyl
 have hol := ownT_len p S rs s i
 refine ifd (fun hlt2 => ?_) (fun hlt2 => ?_)
 ·have w_ := aSo (l := rs) (i := i) (by omega)
  obtain ⟨r, hri⟩ := w_
  have w_ := Ru.elem (hrs.mono hle3) hri
  obtain ⟨ad, pr, hel, hrv, hat⟩ := w_
  have hsucc := ownT_succ (p := p) (S := S) (s := s) hri
  have w_ := strIdx_at hS (hro r (mAt hri))
  obtain ⟨k, hk, hkl, hkS⟩ := w_
  have w_ := Ns.elem (hsS.mono (hle2.trans hle3)) hkS
  obtain ⟨ad2, hel2⟩ := w_
  refine eIn hel ?_
  intro r14
  have hfind := relation_spec (s := r.head.rel) (hp0.mono ((hle1.trans hle2).trans hle3))
  rw [hk] at hfind
  refine cGv hfind ?_
  refine eIn hel2 ?_
  refine ifd (fun hidx => ?_) (fun hidx => ?_)
  ·rw [if_pos (by omega)] at hsucc
   intro r59
   refine gIn ?_ ?_ fun b' c' _ => ?_
   ·show (ys.length + 1) * 120 ≤ _; omega
   ·exact Nat.le_trans (m := 100000000) (show ys.length + 1 ≤ _ by omega) (by decide)
   refine num64 (by omega) (by omega) ⟨(i + 1, b', c', _), ⟨by dsimp only; omega, ?_⟩, by dsimp only; omega, ⟨⟨rfl, rfl, rfl, rfl, rfl, rfl, rfl, rfl, rfl, trivial⟩, ⟨rfl, rfl, trivial⟩, rfl, rfl⟩⟩
   dsimp only
   rw [hsucc]
   simp only [List.map_append, List.map_cons, List.map_nil]
   exact hrows.append (Rows.one hrv (RuD.d_n _))
  ·rw [if_neg (by omega), List.append_nil] at hsucc
   refine num64 (by omega) (by omega) ⟨(i + 1, bo, co, ys), ⟨by dsimp only; omega, ?_⟩, by dsimp only; omega, ⟨⟨rfl, rfl, rfl, rfl, rfl, rfl, rfl, rfl, rfl, trivial⟩, ⟨rfl, rfl, trivial⟩, rfl, rfl⟩⟩
   dsimp only
   rw [hsucc]; exact hrows
 obtain rfl : i = rs.length := by omega
 rw [ownT_all] at hrows hyl hol
 refine call_frz [1] ?_
 intro μ4 hle4 hno4 hat4
 have hRO : RsV μ4 (ownR p S rs s) (.slice (bo.map fun r => ⟨r, 0, none⟩) ys.length co) := Rows.sl hat4 (hrows.mono hle4) (Nat.le_trans (m := 100000000) (by omega) (by decide))
 have w_ := RsV.sl hRO
 obtain ⟨b9, c9, e9, hsO⟩ := w_
 have w_ := Value.slice.inj e9
 obtain ⟨rfl, _, rfl⟩ := w_
 have hun := unless_spec (c3 := co) (c := c4) hsO (by omega) hBa (by omega) (hsB.mono hle4)
 rw [hyl] at hun
 refine call_go hun fun v5 μ5 hle5 hR5 => ?_
 have hR5 : RsV μ5 (unlessR (ownR p S rs s) B) v5 := hR5
 have w_ := RsV.sl hR5
 obtain ⟨b7, c7, rfl, hsU⟩ := w_
 refine cPl (grow_spec hsU (by omega) (RepV.mono (hle4.trans hle5) hout0) (by omega)) fun v6 μ6 hle6 hR6 => ?_
 rw [← hBs] at hR6
 have w_ := FsV.sl hR6
 obtain ⟨b8, c8, rfl, -, -⟩ := w_
 exact num64 (by omega) (by omega) ⟨[], (s + 1, b8, c8, μ6), ⟨by dsimp only; omega, (hle3.trans hle4).trans (hle5.trans hle6), hR6⟩, by dsimp only; omega, ⟨⟨rfl, rfl, rfl, rfl, rfl, trivial⟩, ⟨rfl, trivial⟩, rfl, rfl⟩⟩
end
end Go.Vx
namespace Go.Vx
open Go.Proofs Classical
section
variable {μ : Mem}
set_option maxHeartbeats 4000000 in
theorem FnExactStratifiedModel_spec {t0 : Pg} {v0 : Value} {t1 : List Tm} {v1 : Value} (h0 : RepV μ t0.d v0) (h1 : RepV μ (.sl 4 (t1.map Tm.d)) v1) (w0 : t0.d.wd) (w1 : D.wds (t1.map Tm.d)) :
  Spec Tryz.prog 9 [v0, v1] μ fun r _ => r = .bool true := by
 obtain ⟨p0, rfl⟩ := Pg.invV h0
 obtain ⟨b1, c1, rfl, s1⟩ := Rep.sl h1
 rw [List.length_map] at s1 ⊢
 refine Spec.mk Tryz.func9 (by kernel_rfl) ?_
 intro r0
 refine cGv (szProgram_spec t0 h0 (by omega) (by omega) w0) ?_
 refine ifd (fun h => rPl rfl) (fun h => ?_)
 have q0 := szR_ge h
 rw [szR_pos q0] at h ⊢
 refine cGv (szTermS_spec s1 (by omega) (by omega) w1) ?_
 refine ifd (fun h => rPl rfl) (fun h => ?_)
 have q1 := szR_ge h
 rw [szR_pos q1] at h
 have hb0 : t0.d.sz ≤ 1048576 := by omega
 have hb1 : t1.length + D.szs (t1.map Tm.d) ≤ 1048576 := by omega
 refine cPl (toProgram_spec t0 h0 hb0) fun u1 μ1 hle1 hf1 => ?_
 replace h0 := h0.mono hle1
 replace s1 := s1.mono hle1
 obtain ⟨qq2, rfl⟩ := Pg.invV hf1.rep
 have a0 := hf1.rep
 refine cPl (toTermS_spec s1 hb1) fun u3 μ3 hle3 hf3 => ?_
 replace h0 := h0.mono hle3
 replace s1 := s1.mono hle3
 replace a0 := a0.mono hle3
 obtain ⟨bb4, cc4, rfl, a1⟩ := Rep.sl hf3.rep
 rw [List.length_map] at a1 ⊢
 refine cPl (spec_StratifiedModel_spec a0 w0 a1 w1) fun u5 μ5 hle5 hR => ?_
 replace h0 := h0.mono hle5
 replace s1 := s1.mono hle5
 replace a0 := a0.mono hle5
 replace a1 := a1.mono hle5
 obtain ⟨w0, rfl, hw0⟩ := optFs_rep hR
 obtain ⟨bb6, cc6, rfl, hw⟩ := Rep.sl hw0
 rw [List.length_map] at hw ⊢
 refine call_new id (apart_nil _) Owns.none ((toProgram_spec t0 (h0.mono (Mem.le_join _ _)) hb0).weaken fun v μ' _ h => ⟨v, rfl, h⟩) fun x0 μ7 H7 hle7 hap7 ho7 => ?_
 replace h0 := h0.mono hle7
 replace s1 := s1.mono hle7
 replace hw := hw.mono hle7
 obtain ⟨qq8, rfl⟩ := Pg.invV (Owns.rep (l1 := []) hap7 ho7)
 have xx0 := (Owns.rep (l1 := []) hap7 ho7)
 intro rx0
 refine call_new id hap7 ho7 ((toTermS_spec (s1.mono (Mem.le_join _ _)) hb1).weaken fun v μ' _ h => ⟨v, rfl, h⟩) fun x1 μ9 H9 hle9 hap9 ho9 => ?_
 replace h0 := h0.mono hle9
 replace s1 := s1.mono hle9
 replace hw := hw.mono hle9
 obtain ⟨bb10, cc10, rfl, xx1⟩ := Rep.sl (Owns.rep (l1 := [_]) hap9 ho9)
 rw [List.length_map] at xx1 ho9 ⊢
 obtain ⟨bn13, cn13, en13, ya12⟩ := Rep.sl (Owns.rep (l1 := [_]) hap9 ho9)
 rw [List.length_map] at ya12 en13
 obtain ⟨rfl, _, rfl⟩ := Value.slice.inj en13
 refine call_new (fun gv => .tuple #[gv, .bool (stratM t0 t1).isSome]) hap9 ho9 ((impl_StratifiedModel_spec (Owns.rep (l1 := []) hap9 ho9) ya12).weaken fun v μ' _ h => optFs_fresh h) fun g0 μ11 H11 hle11 hap11 ho11 => ?_
 replace h0 := h0.mono hle11
 replace s1 := s1.mono hle11
 replace hw := hw.mono hle11
 obtain ⟨bb14, cc14, rfl, gg⟩ := Rep.sl (Owns.rep (l1 := [_, _]) hap11 ho11)
 rw [List.length_map] at gg ho11 ⊢
 obtain ⟨bn16, cn16, en16, yg15⟩ := Rep.sl (Owns.rep (l1 := [_, _]) hap11 ho11)
 rw [List.length_map] at yg15 en16
 obtain ⟨rfl, _, rfl⟩ := Value.slice.inj en16
 refine call_read hap11 (eqFactS_spec yg15 (hw.mono (Mem.le_join _ _))) ?_
 refine iIn (fun h => nomatch h) (fun _ => ?_)
 refine iIn (fun h => absurd h (by simp)) (fun _ => ?_)
 refine cDa hap11 (toProgram_spec t0 h0 hb0) fun u17 μ17 hle17 hap17 hf17 => ?_
 replace h0 := h0.mono hle17
 replace s1 := s1.mono hle17
 replace hw := hw.mono hle17
 refine call_read hap17 (eqProgram_spec t0 (Owns.rep (l1 := []) hap17 ho11) (hf17.rep.mono (Mem.le_join _ _))) ?_
 refine iIn (fun h => nomatch h) (fun _ => ?_)
 refine cDa hap17 (toTermS_spec s1 hb1) fun u18 μ18 hle18 hap18 hf18 => ?_
 replace h0 := h0.mono hle18
 replace s1 := s1.mono hle18
 replace hw := hw.mono hle18
 obtain ⟨bb19, cc19, rfl, z1⟩ := Rep.sl hf18.rep
 rw [List.length_map] at z1 ⊢
 obtain ⟨bn21, cn21, en21, yb20⟩ := Rep.sl (Owns.rep (l1 := [_]) hap18 ho11)
 rw [List.length_map] at yb20 en21
 obtain ⟨rfl, _, rfl⟩ := Value.slice.inj en21
 refine call_read hap18 (eqTermS_spec yb20 (z1.mono (Mem.le_join _ _))) ?_
 refine iIn (fun h => nomatch h) (fun _ => ?_)
 have ca0 := pg_cnt_sz t0
 rw [Pg.cnt_eq] at ca0
 have ma0 := pg_mt t0 (1)
 have ca1 := tms_cnt t1
 have ma1 := D.mks_cnt (t1.map Tm.d) ((t0.d.mt (1)).2)
 have rz := resF_cnt (o := stratM t0 t1) (n := 2000) fun y h => ⟨t0, (stratM_ok h).1, (stratM_ok h).2.1, (stratM_ok h).2.2⟩
 have mg := D.mks_cnt ((resF (stratM t0 t1)).map Fc.d) 1
 refine call_mark (l1 := []) hap18 ho11 (fun hx o => markProgram_spec t0 o (by omega) (by omega)) fun H22 hap22 ho22 => ?_
 refine call_mark (l1 := [_]) hap22 ho22 (fun hx o => markTermS_spec o (by omega) (by omega)) fun H23 hap23 ho23 => ?_
 refine ifd (fun h => by omega) (fun _ => ?_)
 obtain ⟨bn25, cn25, en25, yg24⟩ := Rep.sl (Owns.rep (l1 := [_, _]) hap23 ho23)
 rw [List.length_map] at yg24 en25
 obtain ⟨rfl, _, rfl⟩ := Value.slice.inj en25
 refine call_read hap23 (eqFactS_spec yg24 (hw.mono (Mem.le_join _ _))) ?_
 refine iIn (fun h => nomatch h) (fun _ => ?_)
 refine iIn (fun h => absurd h (by simp)) (fun _ => ?_)
 refine call_mark (l1 := [_, _]) hap23 ho23 (fun hx o => markFactS_spec o (by omega) (by omega)) fun H26 hap26 ho26 => ?_
 refine call_read hap26 (heldFactS_spec (Owns.rep (l1 := [_, _]) hap26 ho26) (by omega) (by omega)) ?_
 refine ifd (fun h => by omega) (fun _ => ?_)
 refine ifnd (fun h => absurd rfl h) (fun _ => ?_)
 refine cDa hap26 (toProgram_spec t0 h0 hb0) fun u27 μ27 hle27 hap27 hf27 => ?_
 replace h0 := h0.mono hle27
 replace s1 := s1.mono hle27
 replace hw := hw.mono hle27
 obtain ⟨qq28, rfl⟩ := Pg.invV hf27.rep
 have o0 := hf27.rep
 refine cDa hap27 (toTermS_spec s1 hb1) fun u29 μ29 hle29 hap29 hf29 => ?_
 replace h0 := h0.mono hle29
 replace s1 := s1.mono hle29
 replace hw := hw.mono hle29
 replace o0 := o0.mono hle29
 obtain ⟨bb30, cc30, rfl, o1⟩ := Rep.sl hf29.rep
 rw [List.length_map] at o1 ⊢
 refine cDa hap29 ((impl_StratifiedModel_spec o0 o1).weaken fun v μ' _ h => optFs_fresh h) fun u31 μ31 hle31 hap31 hR => ?_
 replace h0 := h0.mono hle31
 replace s1 := s1.mono hle31
 replace hw := hw.mono hle31
 replace o0 := o0.mono hle31
 replace o1 := o1.mono hle31
 obtain ⟨h0, rfl, hh0⟩ := hR
 obtain ⟨bb32, cc32, rfl, hh⟩ := Rep.sl hh0.rep
 rw [List.length_map] at hh ⊢
 refine call_read hap31 (eqFactS_spec (hh.mono (Mem.le_join _ _)) (hw.mono (Mem.le_join _ _))) ?_
 refine iIn (fun h => nomatch h) (fun _ => ?_)
 refine iIn (fun h => absurd h (by simp)) (fun _ => ?_)
 refine call_read hap31 (heldFactS_spec (Owns.rep (l1 := [_, _]) hap31 ho26) (by omega) (by omega)) ?_
 refine ifd (fun h => by omega) (fun _ => ?_)
 refine ifnd (fun h => absurd rfl h) (fun _ => ?_)
 exact rPl rfl
end
end Go.Vx
