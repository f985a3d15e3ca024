/- Texts of the proof, part E1. -/
import Derived.Below
import Derived.MapKept
import Derived.Maps.RangeRun
import Derived.Orders
import Derived.Sort.AssemblyPlain
import Derived.WalkKit
import Derived.WideKeyMaps
import Derived.Test.YteomklpfifepdaaM3
namespace Go.Vx
theorem look_intro {μ h : Mem} {r : Nat} {ok : Value → Prop} {key : Value} {K : Option Value → Prop} (l : List (Value × Value)) (o : Option Value) (hm : h r = some (mapO l)) (hk : MapOk ok l) (hok : ok key) (e : mget l key = o) (k : K o) : lookVC μ h r ok key K := ⟨⟨hok, l, .inr hm, hk, by rw [e]; exact k⟩⟩
theorem mlen_intro {μ h : Mem} {r : Nat} {K : Nat → Prop} (l : List (Value × Value)) (hm : h r = some (mapO l)) (k : K l.length) : mlenVC μ h r K := ⟨⟨l, .inr hm, k⟩⟩
theorem upd_intro {h : Mem} {r : Nat} {ok : Value → Prop} {key val : Value} {K : Mem → Prop} (l : List (Value × Value)) (hm : h r = some (mapO l)) (hk : MapOk ok l) (hok : ok key) (k : K (h.set r (mapO (mset l key val)))) : updVC h r ok key val K := ⟨⟨hok, l, hm, hk, k⟩⟩
theorem next_intro {μ h : Mem} {r : Nat} {over : Prop} {K : Value → Value → Mem → Prop} (m : Nat) (seen : List Nat) (c : Nat) (l : List (Value × Value)) (hr : h r = some (iterO m l.length seen c)) (hm : h m = some (mapO l)) (hc : l.length ≤ c)
  (h1 : (∀ j, j < l.length → j ∈ seen) → over) (h2 : ∀ (j : Nat) k v, l[j]? = some (k, v) → j ∉ seen → K k v (h.set r (iterO m l.length (seen ++ [j]) l.length))) : nextVC μ h r over K := ⟨⟨m, seen, c, l, hr, .inr hm, hc, h1, h2⟩⟩
theorem ent_intro {μ h : Mem} {r : Nat} {K : Value → Value → Prop} (m n : Nat) (seen : List Nat) (j : Nat) (l : List (Value × Value)) (k v : Value) (hr : h r = some (iterO m n (seen ++ [j]) l.length)) (hm : h m = some (mapO l)) (hj : l[j]? = some (k, v)) (c : K k v) : entVC μ h r K := ⟨⟨m, n, seen, j, l, k, v, hr, .inr hm, hj, c⟩⟩
theorem call_gen {dr : Bool} {P : Program} {f : FuncId} {args : List Value} {s : St} {K : Value → St → Prop} (fz gv : List Nat) (hd : dr = true → gv = [])
  (h : frzVC fz s fun s => giveVC gv s fun s => (∃ R, Spec P f args s.mem R ∧ ∀ v μ', s.mem.Le μ' → R v μ' → memK s μ' fun s => K v s) ∨
   ∃ R, SpecH P f args s.mem s.own R ∧ ∀ v μ' h', s.mem.Le μ' → Apart μ' h' → R v μ' h' → memOwnK s μ' h' fun s => K v s) : callVC dr P f args s K := ⟨⟨fz, gv, hd, h⟩⟩
theorem own_go {P : Program} {f : FuncId} {args : List Value} {μ h0 : Mem} {K : Value → Mem → Prop} {K' : Value → Mem → Mem → Prop} {R : Value → Mem → Mem → Prop} (h : SpecH P f args μ h0 R)
  (k : ∀ v μ' h', μ.Le μ' → Apart μ' h' → R v μ' h' → K' v μ' h') : (∃ R, Spec P f args μ R ∧ ∀ v μ', μ.Le μ' → R v μ' → K v μ') ∨ ∃ R, SpecH P f args μ h0 R ∧ ∀ v μ' h', μ.Le μ' → Apart μ' h' → R v μ' h' → K' v μ' h' := .inr ⟨R, h, k⟩
theorem loop_nil {body : St → (Ex → St → Prop) → Prop} {s : St} {K : Ex → St → Prop} {ι : Type} (I : ι → Prop) (σ : ι → St) (m : ι → Nat) (i0 : ι) (h0 : I i0)
  (h1 : ∀ i, scopedE (σ i).nxt (σ i).env = true ∧ scopedB (σ i).nxt (σ i).blk = true) (h2 : s.SubN (σ i0))
  (h3 : ∀ i, I i → body (σ i) fun e s' => match e with
   | .normal => ∃ i', I i' ∧ m i' < m i ∧ s'.Sub (σ i')
   | e => K e s') : loopVC body s K := ⟨.inl ⟨ι, I, σ, m, i0, h0, h1, .inr h2, h3⟩⟩
end Go.Vx
namespace Go.Vx
open MapKept (IsKey)
open Classical in
theorem mset_length (v : Value) : ∀ (l : List (Value × Value)) (k : Value), (mset l k v).length = if mget l k = none then l.length + 1 else l.length
 | [], k => by simp [mset, mget]
 | (a, x) :: r, k => by
  rw [mset, mget]
  split
  ·simp
  ·simp only [List.length_cons, mset_length v r k]
   split <;> simp_all
section
variable {P : Program} {w : World}
end
end Go.Vx
namespace Go.Vx
section
variable {P : Program} {f : FuncId} {args : List Value} {μ h0 : Mem}
theorem Mem.sub_le (μ g : Mem) : (μ.sub g).Le μ := fun b o h => by
 unfold Mem.sub at h
 split at h
 ·cases h
 ·exact h
theorem Mem.sub_none {μ g : Mem} {b : Nat} (h : (μ.sub g) b ≠ none) : g b = none := by
 unfold Mem.sub at h
 split at h
 ·exact absurd rfl h
 ·assumption
theorem Mem.sub_of {μ g : Mem} {b : Nat} (h : g b = none) : (μ.sub g) b = μ b := by unfold Mem.sub; rw [h]
theorem Mem.le_sub {μ μ' g : Mem} (h : μ.Le μ') (ha : Apart μ g) : μ.Le (μ'.sub g) := fun b o hb => by
 rw [Mem.sub_of (ha b (by simp [hb]))]; exact h b o hb
theorem SpecH.lend {H : Mem} {R : Value → Mem → Prop} (ha : Apart μ H) (h : Spec P f args (μ.join H) R) : SpecH P f args μ H fun v μ1 H1 => H1 = H ∧ ∃ μ', R v μ' ∧ (μ.join H).Le μ' ∧ μ1 = μ'.sub H := by
 refine ⟨h.1, fun w hm hH _ => (h.2 w (hm.join hH) (holds_nil w) (apart_nil _)).mono ?_⟩
 rintro e w' ⟨v, μ', h', rfl, hr, hS⟩
 refine ⟨v, μ'.sub H, H, rfl, ⟨rfl, μ', hr, hS.le, rfl⟩, ⟨Mem.le_sub ((Mem.le_join μ H).trans hS.le) ha, hS.mem.le (Mem.sub_le _ _), hS.mem.le ((Mem.le_join_right ha).trans hS.le), fun b hb => Mem.sub_none hb, fun b hb hb' => ?_, fun b hb => .inr hb, hS.size, fun b hb _ => hS.keep b hb rfl, hS.os, hS.tape, hS.output⟩⟩
 have h1 := Mem.sub_none hb'
 rw [Mem.sub_of h1] at hb'
 refine .inl ((hS.fresh b ?_ hb').resolve_right (fun h => h rfl))
 rw [Mem.join_get, hb]; exact h1
end
theorem set_cell {h : Mem} {r i j : Nat} {pre l post : List Value} {ty : TypeId} {v : Value} (hp : pre.length = i) (hv : l[j]? = some v) : (h.set r (.cells (List.toArray (pre ++ (l ++ post))) ty (0, 0))).cell ⟨r, i + j, none⟩ = some v := by
 subst hp
 have hlt : j < l.length := (List.getElem?_eq_some_iff.1 hv).1
 simp only [Mem.cell, Mem.set_get, if_true]
 simp only [Option.isSome_none, Bool.false_eq_true, if_false, List.getElem?_toArray]
 rw [List.getElem?_append_right (by omega), Nat.add_sub_cancel_left, List.getElem?_append_left hlt]
 exact hv
theorem sto_at {h : Mem} {r j : Nat} {ad : Addr} {pre l post : List Value} {ty : TypeId} {v : Value} {K : Mem → Prop} (ha : ad = ⟨r, pre.length + j, none⟩) (hj : j < l.length) (k : K (h.set r (.cells (List.toArray (pre ++ (l.set j v ++ post))) ty (0, 0)))) :
  stoVC (h.set r (.cells (List.toArray (pre ++ (l ++ post))) ty (0, 0))) ad [v] K := by
 subst ha
 refine sIn (pre ++ (l ++ post)) ty (by rw [Mem.set_get, if_pos rfl]) rfl (by simp; omega) ?_
 rw [Mem.set_set]
 have e : (pre ++ (l ++ post)).take (pre.length + j) ++ [v] ++ (pre ++ (l ++ post)).drop (pre.length + j + [v].length) = pre ++ (l.set j v ++ post) := by
  rw [List.take_length_add_append, List.length_singleton, Nat.add_assoc, List.drop_length_add_append, List.take_append_of_le_length (by omega), List.drop_append_of_le_length (by omega), List.set_eq_take_append_cons_drop, if_pos hj]
  simp
 simp only at e ⊢
 rw [e]
 exact k
theorem own_at {μ h : Mem} {r j : Nat} {ad : Addr} {pre l post : List Value} {ty : TypeId} {v : Value} {K : List Value → Prop} (ha : ad = ⟨r, pre.length + j, none⟩) (hv : l[j]? = some v) (k : K [v]) :
  extVC μ (h.set r (.cells (List.toArray (pre ++ (l ++ post))) ty (0, 0))) ad 1 K := by
 subst ha
 refine oIn [v] rfl (fun i x hx => ?_) k
 match i with
 | 0 =>
  simp only [List.getElem?_cons_zero, Option.some.injEq] at hx
  subst hx
  rw [Addr.add_lit', Nat.add_zero]
  exact set_cell rfl hv
 | i + 1 => simp at hx
end Go.Vx
namespace Go.Vx
open Classical
theorem Sl.headL {μ : Mem} {es n c i : Nat} {base : Option Addr} {xs : List D} (h : Sl μ es base n xs) (hi : i ≤ n) : Sl μ es (if c = 0 then base else base.map (·.add (0 * es))) (i - 0) (xs.take i) := by
 have e : (if c = 0 then base else base.map (·.add (0 * es))) = base := by
  split
  ·rfl
  ·cases base with
   | none => rfl
   | some a => simp [Addr.add]
 rw [e]
 have hl := h.len
 refine ⟨by rw [List.length_take]; omega, Nat.le_trans (by omega) h.max, fun j x hx => ?_⟩
 have hj := (List.getElem?_eq_some_iff.1 hx).1
 rw [List.length_take] at hj
 rw [List.getElem?_take, if_pos (by omega)] at hx
 have w_ := h.get j x hx
 obtain ⟨a, cs, he, hr⟩ := w_
 exact ⟨a, cs, ⟨he.lo, by omega, he.addr, he.len, he.cell⟩, hr⟩
theorem Rep.slC {μ : Mem} {es : Nat} {xs : List D} {v : Value} (h : Rep μ (.sl es xs) [v]) : ∃ base cap, v = .slice base xs.length cap ∧ Sl μ es base xs.length xs ∧ xs.length ≤ cap := by
 have w_ := Rep.sl h
 obtain ⟨b, c, rfl, hs⟩ := w_
 obtain ⟨base, cap, h1, h2, _⟩ := h
 simp only [List.cons.injEq, and_true, Value.slice.injEq, true_and] at h1
 obtain ⟨rfl, rfl⟩ := h1
 exact ⟨b, c, rfl, hs, h2.le⟩
end Go.Vx
namespace Go.Vx
open Go.Proofs Classical
def rsv : List ByteArray := [⟨#[116, 114, 117, 101]⟩, ⟨#[102, 97, 105, 108]⟩, ⟨#[115, 121, 109, 98, 111, 108]⟩, ⟨#[110, 117, 109, 98, 101, 114]⟩, ⟨#[97, 98, 115, 101, 110, 116]⟩, ⟨#[97, 110, 100]⟩, ⟨#[111, 114]⟩, ⟨#[110, 111, 116]⟩, ⟨#[100, 101, 102, 105, 110, 101]⟩]
def IsRel (s : ByteArray) : Prop := s ∉ rsv ∧ IsNm s
end Go.Vx
namespace Go.Vx
open Go.Proofs Classical
theorem lift_ok : ∀ {l : List Tm}, (∀ t ∈ l, t.Ok) → ∃ xs : List T, l = xs.map T.tm ∧ ∀ x ∈ xs, x.ok
 | [], _ => ⟨[], rfl, by simp⟩
 | t :: l, h => by
  have w_ := (h t (by simp)).lift
  obtain ⟨x, h1, rfl⟩ := w_
  have w_ := lift_ok (l := l) fun t ht => h t (by simp [ht])
  obtain ⟨xs, rfl, h2⟩ := w_
  exact ⟨x :: xs, rfl, by simp; exact ⟨h1, h2⟩⟩
end Go.Vx
namespace Go.Vx
open Go.Proofs Classical
section
variable {μ : Mem}
theorem termsOk_spec {l : List Tm} {base : Option Addr} {cap : Nat} (hsl : Sl μ 4 base l.length (l.map Tm.d)) : Gives Try.prog 80 [.slice base l.length cap] μ (.bool (decide (∀ t ∈ l, t.Ok))) := by
  have hn := maxLen_le hsl.max
  refine Spec.mk Try.func80 (by kernel_rfl) ?_
  refine lIn (fun i : Nat => i ≤ l.length ∧ ∀ t ∈ l.take i, t.Ok) (fun i => ⟨[(5, .val (.slice base l.length cap)), (6, .val (.int .i64 l.length)), (7, .val (.int .i64 i))], [], 0, μ, Mem.nil⟩) (fun i => l.length - i)
   0 ⟨by omega, by simp⟩ (fun i => ⟨rfl, rfl⟩) ⟨⟨rfl, rfl, rfl, trivial⟩, trivial, rfl, rfl⟩ ?_
  rintro i ⟨hi, hall⟩
  refine ifd (fun h => ?_) (fun h => ?_)
  ·have w_ := aSo (l := l) (i := i) (by omega)
   obtain ⟨t, ht⟩ := w_
   have w_ := Tm.elem hsl ht
   obtain ⟨ad, p, hel, hr⟩ := w_
   refine eIn hel ?_
   intro r
   refine cGv (impl_TermOk_spec t hr) ?_
   refine ifnd (fun h => rGv (isF fun hh => h (hh t (mAt ht))) rfl) (fun h => ?_)
   refine num64 (by omega) (by omega) ⟨i + 1, ⟨by omega, fun x hx => ?_⟩, by omega, ⟨⟨rfl, rfl, rfl, trivial⟩, trivial, rfl, rfl⟩⟩
   rw [List.take_add_one, ht, Option.toList_some, List.mem_append, List.mem_singleton] at hx
   rcases hx with hx | rfl
   ·exact hall x hx
   ·exact h
  ·obtain rfl : i = l.length := by omega
   rw [List.take_length] at hall
   exact rGv (isT hall) rfl
end
end Go.Vx
namespace Go.Vx
open Go.Proofs Classical
theorem ints_flat : ∀ l : List Int, (ints l).flatMap vcells = ints l
 | [] => rfl
 | n :: l => by
  have := ints_flat l
  simp only [ints] at this ⊢
  simp [this, vcells]
section
variable {μ : Mem}
theorem flatMap_take_le {α β : Type} (f : α → List β) (l : List α) (i : Nat) : ((l.take i).flatMap f).length ≤ (l.flatMap f).length := by
 have := congrArg (fun l => (l.flatMap f).length) (List.take_append_drop i l)
 simp only [List.flatMap_append, List.length_append] at this
 omega
theorem T.vars_size : ∀ x : T, x.vars.length ≤ x.size
 | .nil => by simp [T.vars]
 | .var _ => by simp [T.vars, T.size]
 | .sym _ => by simp [T.vars]
 | .num _ => by simp [T.vars]
 | .pair a b => by
  have := T.vars_size a
  have := T.vars_size b
  simp [T.vars, T.size]; omega
end
end Go.Vx
namespace Go.Vx
open Go.Proofs Classical
theorem T.args_le (x : T) : x.args.length ≤ 2 := by cases x <;> simp [T.args]
theorem l02Copy_spec : ∀ (x : T) {μ : Mem} {v : Value}, RepV μ x.tm.d v → Spec Try.prog 57 [v] μ fun v μ' => RepV μ' x.tm.d v :=
 T.ind fun x ih μ v hv => by
  have w_ := T.inv hv
  obtain ⟨base, cap, rfl, hsl⟩ := w_
  have hn := T.args_le x
  refine Spec.mk Try.func57 (by kernel_rfl) ?_
  intro r1 r2 r3
  refine loop_nil (fun p : Nat × Option Nat × Nat × List Value × Mem => p.1 ≤ x.args.length ∧ μ.Le p.2.2.2.2 ∧ Rows p.2.2.2.2 4 (((x.args.take p.1).map T.tm).map Tm.d) p.2.2.2.1)
   (fun (i, b, c, ys, μ') => ⟨[(2, .loc 1 r2 0), (3, .loc 2 r3 0), (14, .val (.slice base x.args.length cap)), (15, .val (.int .i64 x.args.length)), (16, .val (.int .i64 i))],
    [(1, some (.cells r2 [.val (.int .i64 0), .val (.int .i64 0), .val (.string ⟨#[]⟩), .val (.slice none 0 0)] 27)), (2, some (.cells r3 [.val (.int .i64 x.tm.kind), .val (.int .i64 x.tm.num), .val (.string x.tm.name), .row 3 b ys.length c] 27)), (3, some (.row b c 27 4 ys))], 4, μ', Mem.nil⟩) (fun p => x.args.length - p.1)
   (0, none, 0, [], μ) ⟨by simp, Mem.Le.refl μ, .nil⟩ (fun (_, _, _, _, _) => ⟨rfl, rfl⟩) ⟨⟨⟨_, rfl, .inl rfl⟩, ⟨_, rfl, .inl rfl⟩, ⟨_, rfl, .inl rfl⟩, ⟨_, rfl, .inl rfl⟩, ⟨_, rfl, .inl rfl⟩, trivial⟩, ⟨.inl rfl, .inr (.inr ⟨_, _, _, _, rfl, rfl, .inl rfl, .inl rfl, .inl rfl, .inr ⟨3, rfl, rfl, Nat.le_refl _⟩, trivial⟩), .inr (.inl ⟨_, _, rfl, Nat.le_refl _⟩), trivial⟩, rfl, rfl⟩ ?_
  rintro ⟨i, b, c, ys, μ'⟩ ⟨hi, hle, hrows⟩
  dsimp only at hi hle hrows
  have hlen := hrows.len
  simp only [List.length_map, List.length_take] at hlen
  refine ifd (fun h => ?_) (fun h => ?_)
  ·have w_ := aSo (l := x.args) (i := i) (by omega)
   obtain ⟨t, ht⟩ := w_
   have ht' : (x.args.map T.tm)[i]? = some t.tm := by simp [ht]
   have w_ := Tm.elem (hsl.mono hle) ht'
   obtain ⟨ad, p, hel, hr⟩ := w_
   refine eIn hel ?_
   intro r4
   refine cPl (ih t (mAt ht) hr) fun v' μ'' hle2 hR => ?_
   have w_ := Tm.invV hR
   obtain ⟨q, rfl⟩ := w_
   intro r5
   refine gIn ?_ ?_ fun b' c' _ => ?_
   ·show (ys.length + 1) * 56 ≤ _; omega
   ·show ys.length + 1 ≤ 9223372036854775807; omega
   have hsucc : ((x.args.take (i + 1)).map T.tm).map Tm.d = ((x.args.take i).map T.tm).map Tm.d ++ [t.tm.d] := by
    rw [List.take_add_one, ht, Option.toList_some]; simp
   exact num64 (by omega) (by omega) ⟨(i + 1, b', c', _, μ''), ⟨by dsimp only; omega, hle.trans hle2, by rw [hsucc]; exact (hrows.mono hle2).append (Rows.one hR (Tm.d_n _))⟩, by dsimp only; omega, ⟨⟨rfl, rfl, rfl, rfl, rfl, trivial⟩, ⟨rfl, rfl, rfl, trivial⟩, rfl, rfl⟩⟩
  ·obtain rfl : i = x.args.length := by omega
   rw [List.take_length] at hrows
   refine rFz [3] fun μ2 hle2 hno hrow => .inl ?_
   rw [T.d_eq]
   exact ⟨_, rfl, RepS.int (RepS.int (RepS.str (RepS.last (Rows.sl hrow (hrows.mono hle2) (Nat.le_trans (m := 10) (by omega) (by decide))))))⟩
end Go.Vx
namespace Go.Vx
open Go.Proofs Classical
section
variable {μ : Mem}
theorem mapVars_spec {k : FuncId} {caps : List Value} {f : Int → Option T} : ∀ (x : T) {μ : Mem} {v : Value}, Looks k caps μ f → RepV μ x.tm.d v →
  Spec Try.prog 82 [v, .func (.func k) #[] caps.toArray] μ fun v μ' => Fresh μ μ' (x.subst f).tm.d v := fun x _ _ hk hv => mapVars_specQ (Q := fun _ => True) x (fun _ _ => trivial) (fun μ' h n _ => hk μ' h n) hv
end
end Go.Vx
namespace Go.Vx
open Go.Proofs Classical
theorem hd1 {x y : Tm} {r : Int} (h : ¬ x.kind = y.kind) : hdCmp x y r = sgn (decide (x.kind < y.kind)) := by rw [hdCmp, if_pos h]
theorem hd3 {x y : Tm} {r : Int} (h1 : x.kind = y.kind) (h2 : x.num = y.num) (h : ¬ x.name = y.name) : hdCmp x y r = sgn (Op.bytesLess x.name.data.toList y.name.data.toList) := by rw [hdCmp, if_neg (fun k => k h1), if_neg (fun k => k h2), if_pos h]
section
variable {μ : Mem}
theorem orderInts_spec (a b : Int) (h : ¬ a = b) : Gives Try.prog 117 [.int .i64 a, .int .i64 b] μ (.int .i64 (sgn (decide (a < b)))) := by
 refine Spec.mk Try.func117 (by kernel_rfl) ?_
 refine ifd (fun h1 => rGv ?_ rfl) (fun h1 => ?_)
 ·rw [decide_eq_true h1]; rfl
 refine ifd (fun h2 => rGv ?_ rfl) (fun h2 => by omega)
 rw [decide_eq_false h1]; rfl
theorem T.kind4 {x : T} (h : x.tm.kind = 4) : ∃ a b, x = .pair a b := by
 cases x <;> simp_all [T.tm, Tm.kind]
theorem T.arg {μ : Mem} {x : T} {base : Option Addr} (h : Sl μ 4 base x.args.length ((x.args.map T.tm).map Tm.d)) {i : Nat} {y : T} (hy : x.args[i]? = some y) : ∃ ad, ∃ p : Option Addr × Nat, ElemAt μ base x.args.length 4 i ad (y.tm.cs p) ∧ RepV μ y.tm.d (.agg (y.tm.cs p).toArray) :=
 Tm.elem h (by simp [hy])
theorem orderTerms_spec : ∀ (x y : T) {v w : Value}, RepV μ x.tm.d v → RepV μ y.tm.d w → Gives Try.prog 112 [v, w] μ (.int .i64 (x.cmp y)) :=
 T.ind fun x ih y v w hv hw => by
  have w_ := T.inv hv
  obtain ⟨b1, c1, rfl, hs1⟩ := w_
  have w_ := T.inv hw
  obtain ⟨b2, c2, rfl, hs2⟩ := w_
  rw [T.cmp_eq]
  refine Spec.mk Try.func112 (by kernel_rfl) ?_
  intro r1 r2
  refine ifnd (fun h => ?_) (fun h1 => ?_)
  ·exact cGv (orderInts_spec _ _ h) (rGv (by rw [hd1 h]) rfl)
  refine ifnd (fun h => ?_) (fun h2 => ?_)
  ·exact cGv (orderInts_spec _ _ h) (rGv (by rw [hd2 h1 h]) rfl)
  refine ifnd (fun h => ?_) (fun h3 => ?_)
  ·refine iIn (fun h4 => rGv ?_ rfl) (fun h4 => rGv ?_ rfl)
   ·rw [hd3 h1 h2 h, h4]; rfl
   ·rw [hd3 h1 h2 h, h4]; rfl
  rw [hd4 h1 h2 h3]
  refine ifnd (fun h => ?_) (fun h4 => ?_)
  ·refine rGv ?_ rfl
   have : x.rest y = 0 := by cases x <;> first | rfl | exact absurd rfl h
   rw [this]
  have w_ := T.kind4 h4
  obtain ⟨a, b, rfl⟩ := w_
  have w_ := T.kind4 (h1 ▸ h4)
  obtain ⟨c, d, rfl⟩ := w_
  have w_ := T.arg hs1 (i := 0) rfl
  obtain ⟨ad1, p1, e1, g1⟩ := w_
  have w_ := T.arg hs2 (i := 0) rfl
  obtain ⟨ad2, p2, e2, g2⟩ := w_
  have w_ := T.arg hs1 (i := 1) rfl
  obtain ⟨ad3, p3, e3, g3⟩ := w_
  have w_ := T.arg hs2 (i := 1) rfl
  obtain ⟨ad4, p4, e4, g4⟩ := w_
  refine eIn e1 (eIn e2 (cGv (ih a (by simp [T.args]) c g1 g2) ?_))
  simp only [T.rest]
  refine ifnd (fun h => ?_) (fun h5 => ?_)
  ·rw [if_neg h]; exact rGv rfl rfl
  ·rw [if_pos h5]
   exact eIn e3 (eIn e4 (cGv (ih b (by simp [T.args]) d g3 g4) (rGv rfl rfl)))
theorem equalTerms_spec (x y : T) {v w : Value} (hv : RepV μ x.tm.d v) (hw : RepV μ y.tm.d w) : Gives Try.prog 67 [v, w] μ (.bool (decide (x = y))) := by
 have w_ := Tm.invV hv
 obtain ⟨p, rfl⟩ := w_
 have w_ := Tm.invV hw
 obtain ⟨q, rfl⟩ := w_
 refine Spec.mk Try.func67 (by kernel_rfl) ?_
 intro r1 r2
 exact cGv (orderTerms_spec x y hv hw) (rGv (isI (T.cmp_zero x y)) rfl)
end
end Go.Vx
namespace Go.Vx
open Go.Proofs Classical
theorem T.good_vars : ∀ {x : T}, x.good → ∀ n ∈ x.vars, 0 ≤ n ∧ n ≤ 100000
 | .nil, _, n, h => by simp [T.vars] at h
 | .var m, hg, n, h => by
  simp only [T.vars, List.mem_singleton] at h
  subst h; exact hg
 | .sym _, _, n, h => by simp [T.vars] at h
 | .num _, _, n, h => by simp [T.vars] at h
 | .pair a b, hg, n, h => by
  simp only [T.vars, List.mem_append] at h
  rcases h with h | h
  ·exact T.good_vars hg.1 n h
  ·exact T.good_vars hg.2 n h
def InV (n : Int) : Prop := 0 ≤ n ∧ n ≤ 100000
def shF (n : Int) (v : Int) : Option T := some (.var (v + n))
section
variable {μ : Mem}
theorem shifted1_looks {n : Int} {rn : Nat} (hn : 0 ≤ n ∧ n ≤ 1000) (hat : μ rn = some (.cells #[.int .i64 n] 3 (0, 0))) :
  LooksOn InV 124 [.pointer (some ⟨rn, 0, none⟩)] μ (shF n) := fun μ' hle m hm => by
 obtain ⟨hm0, hm1⟩ := hm
 refine Spec.mk Try.func124 (by kernel_rfl) ?_
 intro r3
 refine ext_intro [.int .i64 n] rfl (box_at (hle _ _ hat)) ?_
 refine num64 (by omega) (by omega) ?_
 refine cGv (variable_spec _) ?_
 exact rPl ⟨_, rfl, varV_rep _⟩
theorem shifted_spec {n : Int} (hn : 0 ≤ n ∧ n ≤ 1000) (x : T) {v : Value} (hg : x.good) (hv : RepV μ x.tm.d v) :
  Spec Try.prog 84 [v, .int .i64 n] μ fun v μ' => Fresh μ μ' (x.subst (shF n)).tm.d v := by
 have w_ := Tm.invV hv
 obtain ⟨p, rfl⟩ := w_
 refine Spec.mk Try.func84 (by kernel_rfl) ?_
 intro r2 r3 r4
 refine call_frz [1] ?_
 intro μ2 hle2 hno2 hat2
 refine call_go (mapVars_specQ (Q := InV) x (fun m hm => T.good_vars hg m hm) (shifted1_looks hn hat2) (RepV.mono hle2 hv)) fun v3 μ3 hle3 hR3 => ?_
 have w_ := Tm.invV hR3.rep
 obtain ⟨q, rfl⟩ := w_
 exact rPl (hR3.mono hle2 (Mem.Le.refl _))
end
end Go.Vx
namespace Go.Vx
open Go.Proofs Classical
theorem T.good_subst {f : Int → Option T} (hf : ∀ n y, f n = some y → y.good) : ∀ {x : T}, x.good → (x.subst f).good
 | .var n, h => by
  simp only [T.subst]
  cases e : f n with
  | none => exact h
  | some y => exact hf n y e
 | .pair a b, h => ⟨T.good_subst hf h.1, T.good_subst hf h.2⟩
 | .nil, h => h
 | .sym _, h => h
 | .num _, h => h
end Go.Vx
namespace Go.Vx
open Go.Proofs Classical
section
variable {P : Program} {f : FuncId} {args : List Value} {μ h H : Mem}
theorem ne_of_obj {a b : Nat} {x y : Obj} (h1 : h a = some x) (h2 : h b = some y) (hne : x ≠ y) : a ≠ b := fun e => by
 subst e; rw [h1] at h2; cases h2; exact hne rfl
theorem ne_of_none {a b : Nat} {x : Obj} (h1 : h a = some x) (h2 : h b = none) : a ≠ b := fun e => by
 subst e; rw [h1] at h2; cases h2
theorem RowO.obj {r cap : Nat} {ty : TypeId} {es : Nat} {xs : List Value} (k : RowO h r cap ty es xs) : ∃ cs : List Value, h r = some (.cells cs.toArray ty (0, 0)) := by
 obtain ⟨cs, h1, _⟩ := k
 exact ⟨cs, h1⟩
theorem Fresh.unlend {μ1 : Mem} {d : D} {v : Value} (k : Fresh (μ.join H) μ1 d v) (_ha : Apart μ H) : Fresh μ (μ1.sub H) d v := by
 obtain ⟨g, a, b, c⟩ := k
 have c1 : ∀ x, g x ≠ none → μ x = none ∧ H x = none := fun x hx => by
  have h1 := c x hx
  rw [Mem.join_get] at h1
  cases h2 : μ x with
  | none => rw [h2] at h1; exact ⟨rfl, h1⟩
  | some o => rw [h2] at h1; cases h1
 refine ⟨g, a, fun x o hx => ?_, fun x hx => (c1 x hx).1⟩
 rw [Mem.sub_of (c1 x (by simp [hx])).2]
 exact b x o hx
variable {dr : Bool} {s : St} {K : Value → St → Prop}
theorem call_lend {d : D} (hap : Apart s.mem s.own) (h : Spec P f args (s.mem.join s.own) fun v μ' => Fresh (s.mem.join s.own) μ' d v)
  (k : ∀ v μ', s.mem.Le μ' → Apart μ' s.own → Fresh s.mem μ' d v → memOwnK s μ' s.own fun s => K v s) : callVC dr P f args s K :=
 cOw (SpecH.lend hap h) fun v μ' H' hle ha' ⟨h1, μ1, h2, _, h4⟩ => by
  subst h1 h4
  exact k v _ hle ha' (h2.unlend hap)
end
section
variable {μ : Mem}
theorem eachVar_rel {S : Type} (J : S → Mem → Prop) (step : S → Int → S) (Q : S → Int → Prop) {k : FuncId} {caps : List Value}
  (hc : ∀ s h n, Q s n → J s h → SpecH Try.prog k (.int .i64 n :: caps) μ h fun r μ' h' => r = .tuple #[] ∧ μ' = μ ∧ J (step s n) h') :
  ∀ (x : T) {v : Value} (s : S) (h : Mem), RepV μ x.tm.d v → (∀ pre n post, x.vars = pre ++ n :: post → Q (pre.foldl step s) n) → J s h → SpecH Try.prog 63 [v, .func (.func k) #[] caps.toArray] μ h fun r μ' h' => r = .tuple #[] ∧ μ' = μ ∧ J (x.vars.foldl step s) h'
 | .var n, v, s, h, hv, hq, hj => by
  have w_ := Tm.inv hv
  obtain ⟨base, cap, rfl, hsl⟩ := w_
  refine SpecH.mk [] Try.func63 (by kernel_rfl) ?_
  intro r
  refine ifd (fun _ => ?_) (fun h => absurd rfl h)
  refine cOw (hc s h n (hq [] n [] rfl) hj) fun v μ' h' hle hap hR => ?_
  obtain ⟨rfl, e2, hj'⟩ := hR
  obtain rfl := e2.symm
  refine ifd (fun h => absurd h (by decide)) (fun _ => ?_)
  exact rPl ⟨rfl, rfl, hj'⟩
 | .nil, v, s, h, hv, hq, hj => by
  have w_ := Tm.inv hv
  obtain ⟨base, cap, rfl, hsl⟩ := w_
  refine SpecH.mk [] Try.func63 (by kernel_rfl) ?_
  intro r
  refine ifd (fun h => absurd h (by decide)) (fun _ => ?_)
  refine ifd (fun h => absurd h (by decide)) (fun _ => ?_)
  exact rPl ⟨rfl, rfl, hj⟩
 | .sym _, v, s, h, hv, hq, hj => by
  have w_ := Tm.inv hv
  obtain ⟨base, cap, rfl, hsl⟩ := w_
  refine SpecH.mk [] Try.func63 (by kernel_rfl) ?_
  intro r
  refine ifd (fun h => absurd h (by decide)) (fun _ => ?_)
  refine ifd (fun h => absurd h (by decide)) (fun _ => ?_)
  exact rPl ⟨rfl, rfl, hj⟩
 | .num _, v, s, h, hv, hq, hj => by
  have w_ := Tm.inv hv
  obtain ⟨base, cap, rfl, hsl⟩ := w_
  refine SpecH.mk [] Try.func63 (by kernel_rfl) ?_
  intro r
  refine ifd (fun h => absurd h (by decide)) (fun _ => ?_)
  refine ifd (fun h => absurd h (by decide)) (fun _ => ?_)
  exact rPl ⟨rfl, rfl, hj⟩
 | .pair a b, v, s, h, hv, hq, hj => by
  have w_ := Tm.inv hv
  obtain ⟨base, cap, rfl, hsl⟩ := w_
  have w_ := T.parts hsl
  obtain ⟨ad, ad', p, p', h1, h2, hra, hrb⟩ := w_
  refine SpecH.mk [] Try.func63 (by kernel_rfl) ?_
  intro r
  refine ifd (fun h => absurd h (by decide)) (fun _ => ?_)
  refine ifd (fun _ => ?_) (fun h => absurd rfl h)
  refine eIn h1 (cOw (eachVar_rel J step Q hc a s h hra (fun pre n post e => hq pre n (post ++ b.vars) (by simp [T.vars, e])) hj) fun v μ' h' hle hap hR => ?_)
  obtain ⟨rfl, e2, hj'⟩ := hR
  obtain rfl := e2.symm
  refine eIn h2 (cOw (eachVar_rel J step Q hc b _ h' hrb (fun pre n post e => by
   have := hq (a.vars ++ pre) n post (by simp [T.vars, e])
   rwa [List.foldl_append] at this) hj') fun v μ' h' hle hap hR => ?_)
  obtain ⟨rfl, e2, hj'⟩ := hR
  obtain rfl := e2.symm
  exact rPl ⟨rfl, rfl, by simpa [T.vars, List.foldl_append] using hj'⟩
end
end Go.Vx
namespace Go.Vx
open Go.Proofs Classical
noncomputable def ord (acc : List Int) (n : Int) : List Int := if n ∈ acc then acc else acc ++ [n]
noncomputable def ordAll (acc vs : List Int) : List Int := vs.foldl ord acc
theorem ordAll_append (acc a b : List Int) : ordAll acc (a ++ b) = ordAll (ordAll acc a) b := List.foldl_append
theorem ord_length (acc : List Int) (n : Int) : (ord acc n).length ≤ acc.length + 1 := by unfold ord; split <;> simp
theorem ordAll_length : ∀ (vs acc : List Int), (ordAll acc vs).length ≤ acc.length + vs.length
 | [], acc => by simp [ordAll]
 | n :: vs, acc => by
  have h1 := ordAll_length vs (ord acc n)
  have h2 := ord_length acc n
  simp only [ordAll, List.foldl_cons, List.length_cons] at *
  omega
theorem ord_mem (acc : List Int) (n m : Int) : m ∈ ord acc n ↔ m = n ∨ m ∈ acc := by
 unfold ord
 split
 ·rename_i h
  exact ⟨.inr, fun k => k.elim (fun e => e ▸ h) id⟩
 ·simp only [List.mem_append, List.mem_singleton]
  exact or_comm
theorem ordAll_mem : ∀ (vs acc : List Int) (m : Int), m ∈ ordAll acc vs ↔ m ∈ vs ∨ m ∈ acc
 | [], acc, m => by simp [ordAll]
 | n :: vs, acc, m => by
  have := ordAll_mem vs (ord acc n) m
  simp only [ordAll, List.foldl_cons] at *
  rw [this, ord_mem, List.mem_cons]
  constructor
  ·rintro (h | h | h) <;> simp [h]
  ·rintro ((h | h) | h) <;> simp [h]
theorem ord_nodup {acc : List Int} (h : acc.Nodup) (n : Int) : (ord acc n).Nodup := by
 unfold ord
 split
 ·exact h
 ·rename_i hn
  refine List.nodup_append.2 ⟨h, by simp, fun a ha b hb => ?_⟩
  simp only [List.mem_singleton] at hb
  subst hb
  exact fun e => hn (e ▸ ha)
theorem ordAll_nodup : ∀ (vs : List Int) {acc : List Int}, acc.Nodup → (ordAll acc vs).Nodup
 | [], _, h => h
 | n :: vs, _acc, h => ordAll_nodup vs (ord_nodup h n)
section
variable {μ : Mem}
def OrdInv (rm ro : Nat) (acc : List Int) (h : Mem) : Prop := ∃ r rr cap l, h rm = some (.cells #[.map (some r)] 109 (0, 0)) ∧ h ro = some (.cells #[.slice (some ⟨rr, 0, none⟩) acc.length cap] 64 (0, 0)) ∧
 h r = some (mapO l) ∧ MapOk IntKey l ∧ (∀ n, mget l (.int .i64 n) = if n ∈ acc then some (.bool true) else none) ∧ RowO h rr cap 3 1 (ints acc)
theorem orderedVars1_spec {rm ro : Nat} {acc : List Int} {h : Mem} (n : Int) (hb : acc.length ≤ 1000000000000) (H : OrdInv rm ro acc h) :
  SpecH Try.prog 122 [.int .i64 n, .pointer (some ⟨rm, 0, none⟩), .pointer (some ⟨ro, 0, none⟩)] μ h fun v μ' h' => v = .tuple #[] ∧ μ' = μ ∧ OrdInv rm ro (ord acc n) h' := by
 have H0 := H
 obtain ⟨r, rr, cap, l, h1, h2, h3, hk, hg, hr⟩ := H
 refine SpecH.mk [] Try.func122 (by kernel_rfl) ?_
 refine oIn [.map (some r)] rfl (box_at h1) ?_
 by_cases hn : n ∈ acc
 ·refine look_intro l (some (.bool true)) h3 (hk.weaken (by rintro _ ⟨n, rfl⟩; rfl)) rfl (by rw [hg, if_pos hn]) ?_
  refine iIn (fun h => nomatch h) (fun _ => ?_)
  exact rPl ⟨rfl, rfl, by rw [ord, if_pos hn]; exact H0⟩
 ·refine look_intro l none h3 (hk.weaken (by rintro _ ⟨n, rfl⟩; rfl)) rfl (by rw [hg, if_neg hn]) ?_
  refine iIn (fun _ => ?_) (fun h => nomatch h)
  obtain ⟨cs, hcs⟩ := hr.obj
  have e1 : rm ≠ r := ne_of_obj h1 h3 (by simp [mapO])
  have e2 : ro ≠ r := ne_of_obj h2 h3 (by simp [mapO])
  have e3 : rr ≠ r := ne_of_obj hcs h3 (by simp [mapO])
  have e4 : rm ≠ ro := ne_of_obj h1 h2 (by simp)
  have e5 : rr ≠ rm := ne_of_obj hcs h1 (by simp)
  have e6 : rr ≠ ro := ne_of_obj hcs h2 (by simp)
  refine oIn [.map (some r)] rfl (box_at h1) ?_
  refine upd_intro l h3 (hk.weaken (by rintro _ ⟨n, rfl⟩; rfl)) rfl ?_
  generalize hl' : mset l (.int .i64 n) (.bool true) = l'
  have g2 : (h.set r (mapO l')) ro = some (.cells #[.slice (some ⟨rr, 0, none⟩) acc.length cap] 64 (0, 0)) := by rw [Mem.set_ne e2]; exact h2
  refine oIn [.slice (some ⟨rr, 0, none⟩) acc.length cap] rfl (box_at g2) ?_
  intro r1
  refine app_intro (ints acc) (by simp [ints]) (hr.set_ne e3) ?_ ?_ fun r' cap' o hrow hor => ?_
  ·show (acc.length + 1) * 8 ≤ _; omega
  ·exact Nat.le_trans (show acc.length + 1 ≤ 1000000000001 by omega) (by decide)
  dsimp only at hrow hor
  have f1 : rm ≠ r' := by
   rcases hor with e | ⟨e, _⟩
   ·rw [e]; exact e5.symm
   ·exact ne_of_none (by rw [Mem.set_ne e1]; exact h1) e
  have f2 : ro ≠ r' := by
   rcases hor with e | ⟨e, _⟩
   ·rw [e]; exact e6.symm
   ·exact ne_of_none g2 e
  have f3 : r ≠ r' := by
   rcases hor with e | ⟨e, _⟩
   ·rw [e]; exact e3.symm
   ·exact ne_of_none (Mem.set_at _ _ _) e
  refine sIn [.slice (some ⟨rr, 0, none⟩) acc.length cap] 64 (by show (Mem.set (Mem.set h r (mapO l')) r' o) ro = _; rw [Mem.set_ne f2]; exact g2) rfl (Nat.le_refl _) ?_
  refine rPl ⟨rfl, rfl, r, r', cap', l', ?_, ?_, ?_, ?_, ?_, ?_⟩
  ·show (Mem.set (Mem.set (Mem.set h r (mapO l')) r' o) ro _) rm = _
   rw [Mem.set_ne e4, Mem.set_ne f1, Mem.set_ne e1]; exact h1
  ·show (Mem.set (Mem.set (Mem.set h r (mapO l')) r' o) ro _) ro = _
   rw [Mem.set_at, ord, if_neg hn]
   simp
  ·show (Mem.set (Mem.set (Mem.set h r (mapO l')) r' o) ro _) r = _
   rw [Mem.set_ne e2.symm, Mem.set_ne f3, Mem.set_at]
  ·rw [← hl']; exact hk.int _
  ·intro m
   rw [← hl', mget_int, hg, ord, if_neg hn]
   by_cases e : m = n
   ·subst e; rw [if_pos rfl, if_pos (by simp)]
   ·rw [if_neg e]
    by_cases e' : m ∈ acc
    ·rw [if_pos e', if_pos (by simp [e'])]
    ·rw [if_neg e', if_neg (by simp [e', e])]
  ·have e : ints (ord acc n) = ints acc ++ [.int .i64 n] := by rw [ord, if_neg hn]; simp [ints]
   rw [e]
   exact hrow.set_ne f2.symm
theorem flat_vars_length {xs : List T} (hx : ∀ x ∈ xs, x.size ≤ 5000) : (xs.flatMap T.vars).length ≤ xs.length * 5000 := by
 induction xs with
 | nil => simp
 | cons x xs ih =>
  have h1 := T.vars_size x
  have h2 := hx x (by simp)
  have h3 := ih fun y hy => hx y (by simp [hy])
  simp only [List.flatMap_cons, List.length_append, List.length_cons]
  omega
theorem flat_take {α β : Type} {f : α → List β} {xs : List α} {i : Nat} {x : α} (h : xs[i]? = some x) : (xs.take (i + 1)).flatMap f = (xs.take i).flatMap f ++ f x := by
 rw [List.take_add_one, h, Option.toList_some, List.flatMap_append]; simp
theorem impl_orderedVars_spec {xs : List T} {base : Option Addr} {cap : Nat} (hsl : Sl μ 4 base xs.length ((xs.map T.tm).map Tm.d)) (hx : ∀ x ∈ xs, x.size ≤ 5000) (hn : xs.length ≤ 10000000) :
  Spec Try.prog 81 [.slice base xs.length cap] μ fun v μ' => RepV μ' (.sl 1 ((ordAll [] (xs.flatMap T.vars)).map D.i)) v := by
 have htot := flat_vars_length hx
 refine Spec.mkO [7, 3, 4] Try.func81 (by kernel_rfl) ?_
 intro r7 hm7 ho7 r3 hm3 ho3
 refine sIn [.slice none 0 0] 64 (Mem.set_at _ _ _) rfl (Nat.le_refl _) ?_
 intro rM hmM hoM r4 hm4 ho4
 refine sIn [.map none] 109 (Mem.set_at _ _ _) rfl (Nat.le_refl _) ?_
 generalize hh : Mem.set (Mem.set _ r4 _) r4 _ = h0
 have n1 : r7 ≠ r3 := fun e => by subst e; simp [Mem.set_get] at ho3
 have n2 : rM ≠ r3 := fun e => by subst e; simp [Mem.set_get] at hoM
 have n3 : rM ≠ r7 := fun e => by subst e; simp [Mem.set_get, n1] at hoM
 have n4 : r4 ≠ rM := fun e => by subst e; simp [Mem.set_get] at ho4
 have n5 : r4 ≠ r3 := fun e => by subst e; simp [Mem.set_get, n2.symm] at ho4
 have n6 : r4 ≠ r7 := fun e => by subst e; simp [Mem.set_get, n1, n3.symm] at ho4
 have H0 : OrdInv r4 r3 [] h0 := by
  subst hh
  refine ⟨rM, r7, 0, [], ?_, ?_, ?_, MapOk.nil, fun n => rfl, ⟨[], ?_, Nat.le_refl _, Nat.zero_le _, by simp [ints], by simp, by simp [ints]⟩⟩
  ·dsimp only; rw [Mem.set_at]; rfl
  ·dsimp only; rw [Mem.set_ne n5.symm, Mem.set_ne n5.symm, Mem.set_ne n2.symm, Mem.set_at]; rfl
  ·dsimp only; rw [Mem.set_ne n4.symm, Mem.set_ne n4.symm, Mem.set_at]
  ·dsimp only; rw [Mem.set_ne n6.symm, Mem.set_ne n6.symm, Mem.set_ne n3.symm, Mem.set_ne n1, Mem.set_ne n1, Mem.set_at]; rfl
 have A0 : Apart μ h0 := by
  subst hh
  exact (((((((apart_nil μ).set hm7).set hm3).set hm3).set hmM).set hm4).set hm4)
 refine lIn (fun p : Nat × Mem => p.1 ≤ xs.length ∧ Apart μ p.2 ∧ OrdInv r4 r3 (ordAll [] ((xs.take p.1).flatMap T.vars)) p.2)
  (fun (i, h) => ⟨[(3, .val (.pointer (some ⟨r3, 0, none⟩))), (4, .val (.pointer (some ⟨r4, 0, none⟩))), (9, .val (.slice base xs.length cap)), (10, .val (.int .i64 xs.length)), (11, .val (.int .i64 i))], [], 0, μ, h⟩) (fun p => xs.length - p.1)
  (0, h0) ⟨by simp, A0, H0⟩ (fun (_, _) => ⟨rfl, rfl⟩) ⟨⟨rfl, rfl, rfl, rfl, rfl, trivial⟩, trivial, rfl, rfl⟩ ?_
 rintro ⟨i, h⟩ ⟨hi, hap, hJ⟩
 dsimp only at hi hap hJ
 refine ifd (fun hlt => ?_) (fun hlt => ?_)
 ·have w_ := aSo (l := xs) (i := i) (by omega)
  obtain ⟨x, hx'⟩ := w_
  have w_ := Tm.elem (i := i) (t := x.tm) hsl (by simp [hx'])
  obtain ⟨ad, p, hel, hto⟩ := w_
  have hpre := flatMap_take_le T.vars xs i
  have hsz := T.vars_size x
  have hsz2 := hx x (mAt hx')
  refine eIn hel ?_
  intro r
  refine cOw (eachVar_rel (OrdInv r4 r3) ord (fun s _ => s.length ≤ 1000000000000) (fun s h n hq hj => orderedVars1_spec n hq hj) x _ h hto (fun pre n post e => ?_) hJ) fun v μ' h' hle hap' hR => ?_
  ·have h1 := ordAll_length pre (ordAll [] ((xs.take i).flatMap T.vars))
   have h2 := ordAll_length ((xs.take i).flatMap T.vars) []
   have h3 : pre.length ≤ x.vars.length := by rw [e]; simp
   show (ordAll _ pre).length ≤ _
   simp only [List.length_nil] at h2
   omega
  obtain ⟨rfl, e2, hj'⟩ := hR
  obtain rfl := e2.symm
  refine num64 (by omega) (by omega) ⟨(i + 1, h'), ⟨by dsimp only; omega, hap', ?_⟩, by dsimp only; omega, ⟨⟨rfl, rfl, rfl, rfl, rfl, trivial⟩, trivial, rfl, rfl⟩⟩
  dsimp only
  rw [flat_take hx', ordAll_append]
  exact hj'
 ·obtain rfl : i = xs.length := by omega
  rw [List.take_length] at hJ
  obtain ⟨r, rr, cap', l, g1, g2, g3, gk, gg, gr⟩ := hJ
  refine oIn [.slice (some ⟨rr, 0, none⟩) (ordAll [] (xs.flatMap T.vars)).length cap'] rfl (box_at g2) ?_
  refine ret_own h Mem.nil (Parts.nil_right h) ?_
  have := gr.rep (Mem.le_join_right hap) (Ints.rows (ordAll [] (xs.flatMap T.vars)))
  simpa [ints] using this
end
end Go.Vx
namespace Go.Vx
open Go.Proofs Classical
section
variable {μ : Mem}
noncomputable def canonF (vs : List Int) (n : Int) : Option T := if n ∈ vs then some (.var (vs.idxOf n)) else none
theorem idx_at : ∀ {l : List Int} (_ : l.Nodup) {i : Nat} {n : Int}, l[i]? = some n → l.idxOf n = i
 | [], _, i, n, h => by simp at h
 | a :: l, hn, 0, n, h => by
  simp only [List.getElem?_cons_zero, Option.some.injEq] at h
  subst h; simp
 | a :: l, hn, i + 1, n, h => by
  simp only [List.getElem?_cons_succ] at h
  simp only [List.nodup_cons] at hn
  have hne : ¬ a = n := fun e => hn.1 (by subst e; exact List.mem_of_getElem? h)
  have hb : (a == n) = false := by simp [hne]
  rw [List.idxOf_cons, hb, idx_at hn.2 h]
  rfl
theorem T.vars_range : ∀ {x : T}, x.good → ∀ n ∈ x.vars, 0 ≤ n ∧ n ≤ 100000
 | .var n, h, m, hm => by
  simp only [T.vars, List.mem_singleton] at hm
  subst hm; exact h
 | .pair a b, h, m, hm => by
  simp only [T.vars, List.mem_append] at hm
  exact hm.elim (T.vars_range h.1 m) (T.vars_range h.2 m)
 | .nil, _, m, hm => by simp [T.vars] at hm
 | .sym _, _, m, hm => by simp [T.vars] at hm
 | .num _, _, m, hm => by simp [T.vars] at hm
theorem ordAll_range {xs : List T} (hx : ∀ x ∈ xs, x.ok) : (ordAll [] (xs.flatMap T.vars)).length ≤ 100001 := by
 refine nodup_range (ordAll_nodup _ (by simp)) fun n hn => ?_
 rw [ordAll_mem] at hn
 rcases hn with hn | hn
 ·have w_ := List.mem_flatMap.1 hn
  obtain ⟨x, hx', hm⟩ := w_
  have := T.vars_range (hx x hx').1 n hm
  omega
 ·simp at hn
theorem T.subst_congr {f g : Int → Option T} : ∀ (x : T), (∀ n ∈ x.vars, f n = g n) → x.subst f = x.subst g
 | .var n, h => by simp only [T.subst]; rw [h n (by simp [T.vars])]
 | .pair a b, h => by
  simp only [T.subst]
  rw [T.subst_congr a fun n hn => h n (by simp [T.vars, hn]), T.subst_congr b fun n hn => h n (by simp [T.vars, hn])]
 | .nil, _ => rfl
 | .sym _, _ => rfl
 | .num _, _ => rfl
noncomputable def canon (xs : List T) : List T := xs.map (·.subst (canonF (ordAll [] (xs.flatMap T.vars))))
end
end Go.Vx
namespace Go.Vx
open Go.Proofs Classical
section
variable {μ : Mem}
theorem look_mem {μ h : Mem} {r : Nat} {ok : Value → Prop} {key : Value} {K : Option Value → Prop} (l : List (Value × Value)) (o : Option Value) (hm : μ r = some (mapO l)) (hk : MapOk ok l) (hok : ok key) (e : mget l key = o) (k : K o) : lookVC μ h r ok key K := ⟨⟨hok, l, .inl hm, hk, by rw [e]; exact k⟩⟩
def NameInv (rm : Nat) (vs : List Int) (i : Nat) (h : Mem) : Prop := ∃ r l, h rm = some (.cells #[.map (some r)] 105 (0, 0)) ∧ h r = some (mapO l) ∧ MapOk IntKey l ∧ ∀ n, mget l (.int .i64 n) = if n ∈ vs.take i then some (.int .i64 (vs.idxOf n)) else none
theorem Canonical1_looks {rm : Nat} {vs : List Int} {h : Mem} (H : NameInv rm vs vs.length h) (hl : h.Le μ) :
  Looks 83 [.pointer (some ⟨rm, 0, none⟩)] μ fun n => some (.var (if n ∈ vs then vs.idxOf n else 0)) := fun μ' hle n => by
 obtain ⟨r, l, h1, h2, hk, hg⟩ := H
 rw [List.take_length] at hg
 have g1 : μ' rm = _ := hle _ _ (hl _ _ h1)
 have g2 : μ' r = _ := hle _ _ (hl _ _ h2)
 refine Spec.mk Try.func83 (by kernel_rfl) ?_
 intro r0
 refine ext_intro [.map (some r)] rfl (box_at g1) ?_
 by_cases hn : n ∈ vs
 ·refine look_mem l (some (.int .i64 (vs.idxOf n))) g2 (hk.weaken (by rintro _ ⟨n, rfl⟩; rfl)) rfl (by rw [hg, if_pos hn]) ?_
  refine cGv (variable_spec _) ?_
  refine rPl ⟨_, rfl, ?_⟩
  rw [if_pos hn]
  exact varV_rep _
 ·refine look_mem l none g2 (hk.weaken (by rintro _ ⟨n, rfl⟩; rfl)) rfl (by rw [hg, if_neg hn]) ?_
  refine cGv (variable_spec _) ?_
  refine rPl ⟨_, rfl, ?_⟩
  rw [if_neg hn]
  exact varV_rep _
theorem impl_Canonical_spec {xs : List T} {base : Option Addr} {cap : Nat} (hsl : Sl μ 4 base xs.length ((xs.map T.tm).map Tm.d)) (hx : ∀ x ∈ xs, x.ok) (hn : xs.length ≤ 10000000) :
  Spec Try.prog 32 [.slice base xs.length cap] μ fun v μ' => Fresh μ μ' (.sl 4 (((canon xs).map T.tm).map Tm.d)) v := by
 refine Spec.mkO [3] Try.func32 (by kernel_rfl) ?_
 have hall := termsOk_spec (l := xs.map T.tm) (cap := cap) (by rw [List.length_map]; exact hsl)
 rw [List.length_map] at hall
 refine cGv hall ?_
 refine ifnd (fun h => absurd (fun t ht => ?_) h) (fun _ => ?_)
 ·have w_ := List.mem_map.1 ht
  obtain ⟨x, hx', rfl⟩ := w_
  exact (hx x hx').tm
 intro rM hmM hoM r3 hm3 ho3
 refine sIn [.map none] 105 (Mem.set_at _ _ _) rfl (Nat.le_refl _) ?_
 dsimp only at hmM hoM hm3 ho3
 have n1 : rM ≠ r3 := fun e => by subst e; simp [Mem.set_get] at ho3
 generalize hh : Mem.set (Mem.set _ r3 _) r3 _ = h0
 have A0 : Apart μ h0 := by subst hh; exact ((((apart_nil μ).set hmM).set hm3).set hm3)
 have vs0 := ordAll [] (xs.flatMap T.vars)
 generalize hvs : ordAll [] (xs.flatMap T.vars) = vs
 have hnd : vs.Nodup := by rw [← hvs]; exact ordAll_nodup _ (by simp)
 have hrange : vs.length ≤ 100001 := by rw [← hvs]; exact ordAll_range hx
 have hcov : ∀ x ∈ xs, ∀ n ∈ x.vars, n ∈ vs := fun x hx' n hnv => by
  rw [← hvs, ordAll_mem]; exact .inl (List.mem_flatMap.2 ⟨x, hx', hnv⟩)
 have H0 : NameInv r3 vs 0 h0 := by
  subst hh
  refine ⟨rM, [], ?_, ?_, MapOk.nil, fun n => by simp [mget]⟩
  ·rw [Mem.set_at]; rfl
  ·dsimp only; rw [Mem.set_ne n1, Mem.set_ne n1, Mem.set_at]
 refine cDa A0 (impl_orderedVars_spec hsl (fun x h => (hx x h).2) hn) fun v1 μ1 hle1 A1 hR1 => ?_
 rw [hvs] at hR1
 have w_ := Rep.sl hR1
 obtain ⟨vb, vc, rfl, hvsl⟩ := w_
 rw [List.length_map] at hvsl ⊢
 refine lIn (fun p : Nat × Mem => p.1 ≤ vs.length ∧ Apart μ1 p.2 ∧ NameInv r3 vs p.1 p.2)
  (fun (i, h) => ⟨[(0, .val (.slice base xs.length cap)), (3, .val (.pointer (some ⟨r3, 0, none⟩))), (14, .val (.slice vb vs.length vc)), (15, .val (.int .i64 vs.length)), (16, .val (.int .i64 i))], [], 0, μ1, h⟩) (fun p => vs.length - p.1)
  (0, h0) ⟨by simp, A1, H0⟩ (fun (_, _) => ⟨rfl, rfl⟩) ⟨⟨rfl, rfl, rfl, rfl, rfl, trivial⟩, trivial, rfl, rfl⟩ ?_
 rintro ⟨i, h⟩ ⟨hi, hap, hJ⟩
 dsimp only at hi hap hJ
 have hJ0 := hJ
 obtain ⟨r, l, h1, h2, hk, hg⟩ := hJ
 have e1 : r3 ≠ r := ne_of_obj h1 h2 (by simp [mapO])
 refine ifd (fun hlt => ?_) (fun hlt => ?_)
 ·have w_ := aSo (l := vs) (i := i) (by omega)
  obtain ⟨n, hn'⟩ := w_
  have w_ := Ints.elem hvsl hn'
  obtain ⟨ad, hel⟩ := w_
  have hidx := idx_at hnd hn'
  refine eIn hel ?_
  refine oIn [.map (some r)] rfl (box_at h1) ?_
  refine upd_intro l h2 (hk.weaken (by rintro _ ⟨n, rfl⟩; rfl)) rfl ?_
  refine num64 (by omega) (by omega) ⟨(i + 1, h.set r (mapO (mset l (.int .i64 n) (.int .i64 i)))), ⟨by dsimp only; omega, ?_, r, _, ?_, Mem.set_at _ _ _, hk.int _, fun m => ?_⟩, by dsimp only; omega, ⟨⟨rfl, rfl, rfl, rfl, rfl, trivial⟩, trivial, rfl, rfl⟩⟩
  ·refine hap.set ?_
   cases h3 : μ1 r with
   | none => rfl
   | some o => have := hap r (by simp [h3]); rw [h2] at this; cases this
  ·dsimp only; rw [Mem.set_ne e1]; exact h1
  ·dsimp only
   rw [mget_int, hg, List.take_add_one, hn', Option.toList_some]
   by_cases e : m = n
   ·subst e; rw [if_pos rfl, if_pos (by simp), hidx]
   ·rw [if_neg e]
    by_cases h2 : m ∈ vs.take i
    ·rw [if_pos h2, if_pos (by simp [h2])]
    ·rw [if_neg h2, if_neg (by simp [h2, e])]
 ·obtain rfl : i = vs.length := by omega
  clear h1 h2 hk hg e1 r l
  intro r25
  refine lIn (fun p : Nat × Option Nat × Nat × List Value × Mem => p.1 ≤ xs.length ∧ μ1.Le p.2.2.2.2 ∧ Apart p.2.2.2.2 h ∧ Grown 4 μ p.2.2.2.2 ((((xs.take p.1).map (·.subst (canonF vs))).map T.tm).map Tm.d) p.2.2.2.1)
   (fun (i, b, c, ys, μ') => ⟨[(3, .val (.pointer (some ⟨r3, 0, none⟩))), (6, .row 0 b ys.length c), (26, .val (.slice base xs.length cap)), (27, .val (.int .i64 xs.length)), (28, .val (.int .i64 i))], [(0, some (.row b c 27 4 ys))], 1, μ', h⟩) (fun p => xs.length - p.1)
   (0, some r25, 0, [], μ1) ⟨by simp, Mem.Le.refl _, hap, Grown.nil _ _ _⟩ (fun (_, _, _, _, _) => ⟨rfl, rfl⟩) ⟨⟨rfl, rfl, rfl, rfl, rfl, trivial⟩, ⟨rfl, trivial⟩, rfl, rfl⟩ ?_
  rintro ⟨i, b, c, ys, μ'⟩ ⟨hi, hle, hap', hrows⟩
  dsimp only at hi hle hap' hrows
  have hlen := hrows.len
  simp only [List.length_map, List.length_take] at hlen
  refine ifd (fun hlt => ?_) (fun hlt => ?_)
  ·have w_ := aSo (l := xs) (i := i) (by omega)
   obtain ⟨x, hx'⟩ := w_
   have w_ := Tm.elem (i := i) (t := x.tm) ((hsl.mono hle1).mono hle) (by simp [hx'])
   obtain ⟨ad, p, hel, hto⟩ := w_
   refine eIn hel ?_
   intro r
   have hcall := mapVars_spec x (Canonical1_looks (μ := μ'.join h) hJ0 (Mem.le_join_right hap')) (hto.mono (Mem.le_join _ _))
   have hsub : x.subst (fun n => some (.var (if n ∈ vs then ((vs.idxOf n : Nat) : Int) else 0))) = x.subst (canonF vs) := T.subst_congr x fun n hnv => by
    have := hcov x (mAt hx') n hnv
    rw [canonF, if_pos this, if_pos this]
   refine call_lend hap' hcall fun v3 μ3 hle3 hap3 hR3 => ?_
   have w_ := Tm.invV hR3.rep
   obtain ⟨q, rfl⟩ := w_
   intro r5
   refine gIn ?_ ?_ fun b' c' _ => ?_
   ·show (ys.length + 1) * 56 ≤ _; omega
   ·exact Nat.le_trans (m := 100000000) (show ys.length + 1 ≤ _ by omega) (by decide)
   refine num64 (by omega) (by omega) ⟨(i + 1, b', c', _, μ3), ⟨by dsimp only; omega, hle.trans hle3, hap3, ?_⟩, by dsimp only; omega, ⟨⟨rfl, rfl, rfl, rfl, rfl, trivial⟩, ⟨rfl, trivial⟩, rfl, rfl⟩⟩
   dsimp only
   rw [List.take_add_one, hx', Option.toList_some]
   simp only [List.map_append, List.map_cons, List.map_nil]
   exact hrows.snoc (hle1.trans hle) (by rw [← hsub]; exact hR3) hle3 (Tm.d_n _)
  ·obtain rfl : i = xs.length := by omega
   rw [List.take_length] at hrows
   refine rFz [0] fun μ' hle' hno hrow => .inl ?_
   rw [canon, hvs]
   exact hrows.fresh (hle1.trans hle) hle' hno hrow (Nat.le_trans (m := 100000000) (by omega) (by decide))
end
end Go.Vx
namespace Go.Vx
open Go.Proofs Classical
noncomputable def fits (bs : List B) (x : T) : Option T := fit (x.subst (sub bs))
theorem fits_ok {bs : List B} (hb : ∀ b ∈ bs, b.to.ok) {x y : T} (hx : x.good) (h : fits bs x = some y) : y.ok := by
 have w_ := fit_some.1 h
 obtain ⟨h1, rfl⟩ := w_
 exact ⟨T.good_subst (fun n y h => (sub_ok hb h).1) hx, h1⟩
theorem mapM_ok {f : T → Option T} {P : T → Prop} : ∀ {xs ys : List T}, (∀ x ∈ xs, ∀ y, f x = some y → P y) → xs.mapM f = some ys → (∀ y ∈ ys, P y) ∧ ys.length = xs.length
 | [], ys, _, h => by
  simp at h; subst h; simp
 | x :: xs, ys, hf, h => by
  simp only [List.mapM_cons, bind, Option.bind_eq_some_iff, pure, Option.some.injEq] at h
  obtain ⟨y, h1, zs, h2, rfl⟩ := h
  have ih := mapM_ok (fun x hx => hf x (by simp [hx])) h2
  exact ⟨fun z hz => by
   rcases List.mem_cons.1 hz with rfl | hz
   ·exact hf x (by simp) _ h1
   ·exact ih.1 z hz, by simp [ih.2]⟩
theorem mapM_snoc {α β : Type} {f : α → Option β} : ∀ {xs : List α} {i : Nat} {x : α} {ys : List β}, xs[i]? = some x → (xs.take i).mapM f = some ys →
  (xs.take (i + 1)).mapM f = (f x).map (ys ++ [·]) ∧ (f x = none → xs.mapM f = none)
 | [], i, x, ys, h, _ => by simp at h
 | a :: xs, 0, x, ys, h, e => by
  simp at h; subst h
  simp at e; subst e
  refine ⟨?_, fun k => by simp [List.mapM_cons, k]⟩
  cases hfa : f a <;> simp [List.mapM_cons, hfa]
 | a :: xs, i + 1, x, ys, h, e => by
  simp only [List.getElem?_cons_succ] at h
  simp only [List.take_succ_cons, List.mapM_cons, bind, Option.bind_eq_some_iff, pure, Option.some.injEq] at e
  obtain ⟨y, h1, zs, h2, rfl⟩ := e
  have ih := mapM_snoc h h2
  refine ⟨?_, fun k => ?_⟩
  ·simp only [List.take_succ_cons, List.mapM_cons, bind, pure] at ih ⊢
   rw [h1, ih.1]
   cases f x <;> simp
  ·simp only [List.mapM_cons, bind]
   rw [ih.2 k]
   cases f a <;> rfl
noncomputable def reif (l : List Bd) (ts : List Tm) : Option (List T) := if substOk l ∧ ∀ t ∈ ts, t.Ok then ((ts.map Tm.toT).mapM (fits (l.map Bd.b))).map canon else none
theorem reif_eq {bs : List B} {xs : List T} (h : substOk (bs.map B.bd)) (hx : ∀ x ∈ xs, x.ok) : reif (bs.map B.bd) (xs.map T.tm) = (xs.mapM (fits bs)).map canon := by
 rw [reif, if_pos ⟨h, fun t ht => by
  have w_ := List.mem_map.1 ht
  obtain ⟨x, hx', rfl⟩ := w_
  exact (hx x hx').tm⟩, B.map_b]
 have : (xs.map T.tm).map Tm.toT = xs := by
  rw [List.map_map]
  exact (List.map_congr_left fun x _ => T.toT_tm x).trans (List.map_id _)
 rw [this]
def optL (P : List T → Value → Prop) (o : Option (List T)) (v : Value) : Prop := match o with
 | some y => ∃ tv, v = .tuple #[tv, .bool true] ∧ P y tv
 | none => v = .tuple #[.slice none 0 0, .bool false]
section
variable {μ : Mem}
theorem impl_Reify_spec {l : List Bd} {ts : List Tm} {b1 b2 : Option Addr} {c1 c2 : Nat} (hsl : Sl μ 5 b1 l.length (l.map Bd.d)) (hts : Sl μ 4 b2 ts.length (ts.map Tm.d)) (hn : ts.length ≤ 10000000) :
  Spec Try.prog 36 [.slice b1 l.length c1, .slice b2 ts.length c2] μ fun v μ' => optL (fun y tv => Fresh μ μ' (.sl 4 ((y.map T.tm).map Tm.d)) tv) (reif l ts) v := by
 refine Spec.mk Try.func36 (by kernel_rfl) ?_
 refine cGv (impl_SubstOk_spec hsl) ?_
 refine ifnd (fun h => rPl (by rw [reif, if_neg fun k => h k.1]; rfl)) (fun h1 => ?_)
 refine cGv (termsOk_spec hts) ?_
 refine ifnd (fun h => rPl (by rw [reif, if_neg fun k => h k.2]; rfl)) (fun h2 => ?_)
 have w_ := lift_ok h2
 obtain ⟨xs, rfl, hxs⟩ := w_
 obtain ⟨bs, rfl, hbs⟩ := h1.subst
 have hbl := hbs.vals.len
 rw [reif_eq h1 hxs]
 simp only [List.length_map] at hsl hts hn ⊢
 intro r19
 refine lIn (fun p : Nat × List T × Option Nat × Nat × List Value × Mem => p.1 ≤ xs.length ∧ μ.Le p.2.2.2.2.2 ∧ (xs.take p.1).mapM (fits bs) = some p.2.1 ∧ Rows p.2.2.2.2.2 4 ((p.2.1.map T.tm).map Tm.d) p.2.2.2.2.1)
  (fun (i, _, b, c, ys, μ') => ⟨[(0, .val (.slice b1 bs.length c1)), (6, .row 0 b ys.length c), (20, .val (.slice b2 xs.length c2)), (21, .val (.int .i64 xs.length)), (22, .val (.int .i64 i))], [(0, some (.row b c 27 4 ys))], 1, μ', Mem.nil⟩) (fun p => xs.length - p.1)
  (0, [], some r19, 0, [], μ) ⟨by simp, Mem.Le.refl _, by simp, .nil⟩ (fun (_, _, _, _, _, _) => ⟨rfl, rfl⟩) ⟨⟨rfl, rfl, rfl, rfl, rfl, trivial⟩, ⟨rfl, trivial⟩, rfl, rfl⟩ ?_
 rintro ⟨i, zs, b, c, ys, μ'⟩ ⟨hi, hle, hmap, hrows⟩
 dsimp only at hi hle hmap hrows
 have hlen := hrows.len
 have hzl := (mapM_ok (P := fun _ => True) (fun _ _ _ _ => trivial) hmap).2
 simp only [List.length_map, List.length_take] at hlen hzl
 refine ifd (fun h => ?_) (fun h => ?_)
 ·have w_ := aSo (l := xs) (i := i) (by omega)
  obtain ⟨x, hx'⟩ := w_
  have w_ := Tm.elem (i := i) (t := x.tm) (hts.mono hle) (by simp [hx'])
  obtain ⟨ad, p, hel, hto⟩ := w_
  have w_ := mapM_snoc hx' hmap
  obtain ⟨hs1, hs2⟩ := w_
  refine eIn hel ?_
  intro r
  refine cPl (put_spec x hbs.vals.srt (by omega) hbs.vals.tok (hsl.mono hle) hto) fun v3 μ3 hle3 hR3 => ?_
  cases e : fits bs x with
  | none =>
   have e' : fit (x.subst (sub bs)) = none := e
   rw [e'] at hR3
   obtain rfl := hR3
   intro r5
   refine iIn (fun _ => ?_) (fun h => absurd h (by simp))
   exact rPl (by rw [hs2 e]; rfl)
  | some y =>
   have e' : fit (x.subst (sub bs)) = some y := e
   rw [e'] at hR3
   obtain ⟨tv, rfl, hR3⟩ := hR3
   have w_ := Tm.invV hR3.rep
   obtain ⟨q, rfl⟩ := w_
   rw [e] at hs1
   intro r5
   refine iIn (fun h => absurd h (by simp)) (fun _ => ?_)
   intro r6
   refine gIn ?_ ?_ fun b' c' _ => ?_
   ·show (ys.length + 1) * 56 ≤ _; omega
   ·exact Nat.le_trans (m := 100000000) (show ys.length + 1 ≤ _ by omega) (by decide)
   refine num64 (by omega) (by omega) ⟨(i + 1, zs ++ [y], b', c', _, μ3), ⟨by dsimp only; omega, hle.trans hle3, hs1, ?_⟩, by dsimp only; omega, ⟨⟨rfl, rfl, rfl, rfl, rfl, trivial⟩, ⟨rfl, trivial⟩, rfl, rfl⟩⟩
   dsimp only
   simp only [List.map_append, List.map_cons, List.map_nil]
   exact (hrows.mono hle3).append (Rows.one hR3.rep (Tm.d_n _))
 ·obtain rfl : i = xs.length := by omega
  rw [List.take_length] at hmap
  simp only [Nat.min_self] at hzl
  rw [hmap]
  have w_ := mapM_ok (P := T.ok) (fun x hx y hy => fits_ok hbs.vals.tok (hxs x hx).1 hy) hmap
  obtain ⟨hok, hyl⟩ := w_
  refine call_frz [0] ?_
  intro μ1 hle1 hno1 hrow
  have hyl2 : ys.length = zs.length := by omega
  have hR := Rows.sl hrow (hrows.mono hle1) (Nat.le_trans (m := 100000000) (by omega) (by decide))
  have w_ := Rep.sl hR
  obtain ⟨bb, cc, e1, hs1⟩ := w_
  rw [List.length_map, List.length_map] at hs1 e1
  rw [e1]
  refine call_go (impl_Canonical_spec (cap := cc) hs1 hok (by omega)) fun v2 μ2 hle2 hR2 => ?_
  exact rPl ⟨_, rfl, hR2.mono (hle.trans hle1) (Mem.Le.refl _)⟩
end
end Go.Vx
namespace Go.Vx
open Go.Proofs Classical
section
variable {μ : Mem}
theorem one_of {α : Type} {l : List α} (h : l.length = 1) : ∃ v, l = [v] := List.length_eq_one_iff.1 h
variable {μ1 μ' : Mem}
end
end Go.Vx
namespace Go.Vx
open Go.Proofs Classical
inductive Gl where
 | mk (kind : Int) (name : ByteArray) (terms : List Tm) (goals : List Gl)
def Gl.kind : Gl → Int | .mk a _ _ _ => a
def Gl.name : Gl → ByteArray | .mk _ a _ _ => a
def Gl.terms : Gl → List Tm | .mk _ _ a _ => a
def Gl.goals : Gl → List Gl | .mk _ _ _ a => a
theorem Gl.ind {q : Gl → Prop} (h : ∀ x : Gl, (∀ y ∈ x.goals, q y) → q x) : ∀ x, q x
 | .mk a0 a1 a2 a3 => h _ fun y hy => have _ := hy; Gl.ind h y
termination_by x => x
decreasing_by all_goals (first | exact Nat.lt_of_lt_of_le (List.sizeOf_lt_of_mem hy) (by simp only [Gl.goals, Gl.mk.sizeOf_spec]; omega) | decreasing_tactic)
mutual
def Gl.d : Gl → D
 | .mk a0 a1 a2 a3 => .st [.i a0, .s a1, .sl 4 (a2.map Tm.d), .sl 4 (Gl.ds a3)]
def Gl.ds : List Gl → List D
 | [] => []
 | t :: r => t.d :: Gl.ds r
end
theorem Gl.ds_map : ∀ l : List Gl, Gl.ds l = l.map Gl.d
 | [] => rfl
 | t :: r => by simp [Gl.ds, Gl.ds_map r]
theorem Gl.d_eq (x : Gl) : x.d = .st [.i x.kind, .s x.name, .sl 4 (x.terms.map Tm.d), .sl 4 (x.goals.map Gl.d)] := by
 cases x
 rw [Gl.d, Gl.ds_map]
 rfl
theorem Gl.d_n (x : Gl) : x.d.n = 4 := by
 rw [Gl.d_eq]
 simp only [D.n, D.ns]
abbrev Gl.P := (Option Addr × Nat) × (Option Addr × Nat)
def Gl.cs (x : Gl) (p : Gl.P) : List Value := [.int .i64 x.kind, .string x.name, .slice p.1.1 x.terms.length p.1.2, .slice p.2.1 x.goals.length p.2.2]
section
variable {μ : Mem}
def Gl.At (μ : Mem) (x : Gl) (p : Gl.P) : Prop := Sl μ 4 p.1.1 x.terms.length (x.terms.map Tm.d) ∧ Sl μ 4 p.2.1 x.goals.length (x.goals.map Gl.d)
theorem Gl.invA {x : Gl} {cs : List Value} (h : Rep μ x.d cs) : ∃ p : Gl.P, cs = x.cs p ∧ Gl.At μ x p := by
 rw [Gl.d_eq] at h
 obtain ⟨a0, t0, rfl, h0, h⟩ := h
 have h0 : a0 = [.int .i64 x.kind] := h0
 subst h0
 obtain ⟨a1, t1, rfl, h1, h⟩ := h
 have h1 : a1 = [.string x.name] := h1
 subst h1
 obtain ⟨a2, t2, rfl, h2, h⟩ := h
 have w_ := one_of (Rep.len _ _ h2)
 obtain ⟨v2, rfl⟩ := w_
 have w_ := Rep.sl h2
 obtain ⟨b2, c2, rfl, s2⟩ := w_
 rw [List.length_map] at s2
 obtain ⟨a3, t3, rfl, h3, h⟩ := h
 have w_ := one_of (Rep.len _ _ h3)
 obtain ⟨v3, rfl⟩ := w_
 have w_ := Rep.sl h3
 obtain ⟨b3, c3, rfl, s3⟩ := w_
 rw [List.length_map] at s3
 obtain rfl : t3 = [] := h
 exact ⟨((b2, c2), (b3, c3)), by simp [Gl.cs], ⟨s2, s3⟩⟩
theorem Gl.rep {x : Gl} {cs : List Value} (h : Rep μ x.d cs) : RepV μ x.d (.agg cs.toArray) := by
 rw [Gl.d_eq] at h ⊢; exact ⟨cs, rfl, h⟩
theorem Gl.inv {x : Gl} {v : Value} (h : RepV μ x.d v) : ∃ p : Gl.P, v = .agg #[.int .i64 x.kind, .string x.name, .slice p.1.1 x.terms.length p.1.2, .slice p.2.1 x.goals.length p.2.2] ∧ Gl.At μ x p := by
 have h2 : ∃ cs, v = .agg (List.toArray cs) ∧ Rep μ x.d cs := by rw [Gl.d_eq] at h ⊢; exact h
 obtain ⟨cs, rfl, h3⟩ := h2
 have w_ := Gl.invA h3
 obtain ⟨p, rfl, hA⟩ := w_
 exact ⟨p, rfl, hA⟩
theorem Gl.invV {x : Gl} {v : Value} (h : RepV μ x.d v) : ∃ p : Gl.P, v = .agg #[.int .i64 x.kind, .string x.name, .slice p.1.1 x.terms.length p.1.2, .slice p.2.1 x.goals.length p.2.2] := by
 have w_ := Gl.inv h
 obtain ⟨p, h, _⟩ := w_
 exact ⟨p, h⟩
theorem Gl.elemA {l : List Gl} {base : Option Addr} {n : Nat} (h : Sl μ 4 base n (l.map Gl.d)) {i : Nat} {x : Gl} (hx : l[i]? = some x) : ∃ ad, ∃ p : Gl.P, ElemAt μ base n 4 i ad (x.cs p) ∧ RepV μ x.d (.agg (x.cs p).toArray) ∧ Gl.At μ x p := by
 have w_ := h.get i x.d (by simp [hx])
 obtain ⟨ad, cs, h1, h2⟩ := w_
 have w_ := Gl.invA h2
 obtain ⟨p, rfl, hA⟩ := w_
 exact ⟨ad, p, h1, Gl.rep h2, hA⟩
theorem Gl.elem {l : List Gl} {base : Option Addr} {n : Nat} (h : Sl μ 4 base n (l.map Gl.d)) {i : Nat} {x : Gl} (hx : l[i]? = some x) : ∃ ad, ∃ p : Gl.P, ElemAt μ base n 4 i ad (x.cs p) ∧ RepV μ x.d (.agg (x.cs p).toArray) := by
 have w_ := Gl.elemA h hx
 obtain ⟨ad, p, h1, h2, _⟩ := w_
 exact ⟨ad, p, h1, h2⟩
end
end Go.Vx
namespace Go.Vx
open Go.Proofs Classical
mutual
def Gl.cnt : Gl → Nat
 | .mk _ _ _ l => 1 + Gl.cnts l
def Gl.cnts : List Gl → Nat
 | [] => 0
 | t :: r => t.cnt + Gl.cnts r
end
theorem Gl.cnt_eq1 (g : Gl) : g.cnt = 1 + Gl.cnts g.goals := by cases g; rfl
theorem Gl.cnt_pos (g : Gl) : 1 ≤ g.cnt := by rw [Gl.cnt_eq1]; omega
theorem Gl.cnts_append : ∀ (a c : List Gl), Gl.cnts (a ++ c) = Gl.cnts a + Gl.cnts c
 | [], c => by simp [Gl.cnts]
 | d :: r, c => by simp [Gl.cnts, Gl.cnts_append r c, Nat.add_assoc]
theorem Gl.cnts_take {xs : List Gl} {j : Nat} {x : Gl} (h : xs[j]? = some x) : Gl.cnts (xs.take (j + 1)) = Gl.cnts (xs.take j) + x.cnt := by
 rw [List.take_add_one, h, Option.toList_some, Gl.cnts_append]; simp [Gl.cnts]
structure TopOk (g : Gl) : Prop where
 tm : ∀ t ∈ g.terms, t.Ok
 k0 : 0 ≤ g.kind
 k1 : g.kind ≤ 10
 nm : g.kind ≠ 9 → g.name = ⟨#[]⟩
 rel : g.kind = 9 → IsRel g.name
 ln9 : g.kind = 9 → g.terms.length ≤ 4
 ln2 : g.kind = 2 ∨ g.kind = 3 ∨ g.kind = 6 → g.terms.length = 2
 ln1 : g.kind = 4 ∨ g.kind = 5 → g.terms.length = 1
 ln0 : g.kind = 0 ∨ g.kind = 1 ∨ g.kind = 7 ∨ g.kind = 8 ∨ g.kind = 10 → g.terms.length = 0
 gl : g.goals.length ≤ 8
 gl0 : g.kind < 7 ∨ g.kind = 9 → g.goals.length = 0
 gl1 : g.kind = 10 → g.goals.length = 1
 sy : g.kind = 6 → ∀ a, g.terms[0]? = some a → a.kind = 2
 cl : g.kind = 10 → ∀ b, g.goals[0]? = some b → b.kind = 9
inductive Gl.Sh : Gl → Prop
 | mk {g : Gl} (top : TopOk g) (sub : ∀ x ∈ g.goals, x.Sh) : g.Sh
theorem Gl.Sh.top {g : Gl} (h : g.Sh) : TopOk g := by cases h; assumption
theorem Gl.Sh.sub {g : Gl} (h : g.Sh) : ∀ x ∈ g.goals, x.Sh := by cases h; assumption
def Gl.Ok (g : Gl) : Prop := g.Sh ∧ g.cnt ≤ 80
section
variable {μ : Mem}
end
end Go.Vx
namespace Go.Vx
open Go.Proofs Classical
noncomputable def Gl.nodes (t : Gl) (room : Int) : Int := if t.Sh ∧ (t.cnt : Int) ≤ room then t.cnt else -1
theorem Gl.nodes_neg {t : Gl} {room : Int} (h : ¬ (t.Sh ∧ (t.cnt : Int) ≤ room)) : Value.int .i64 (-1) = .int .i64 (t.nodes room) := by rw [Gl.nodes, if_neg h]
theorem Gl.nodes_pos {t : Gl} {room : Int} (h : t.Sh) (h2 : (t.cnt : Int) ≤ room) : t.nodes room = t.cnt := by rw [Gl.nodes, if_pos ⟨h, h2⟩]
theorem Gl.nodes_lt {t : Gl} {room : Int} (h : t.nodes room < 0) : ¬ (t.Sh ∧ (t.cnt : Int) ≤ room) := fun k => by rw [Gl.nodes, if_pos k] at h; omega
theorem Gl.nodes_ge {t : Gl} {room : Int} (h : ¬ t.nodes room < 0) : t.Sh ∧ (t.cnt : Int) ≤ room ∧ t.nodes room = t.cnt := by
 by_cases k : t.Sh ∧ (t.cnt : Int) ≤ room
 ·exact ⟨k.1, k.2, by rw [Gl.nodes, if_pos k]⟩
 ·rw [Gl.nodes, if_neg k] at h; omega
section
variable {μ : Mem}
end
end Go.Vx
namespace Go.Vx
open Go.Proofs Classical
open Go.Sort
theorem arr_at {d : Array Int} {k : Nat} (h : k < d.size) : d.toList[k]? = some d[k]! := by
 rw [Array.getElem?_toList, getElem!_pos d k h, Array.getElem?_eq_getElem h]
section
variable {μ h0 : Mem} {r : Nat} {ty : TypeId} {rest : List Value} {d : Array Int}
theorem idxI {n : Nat} {i : Int} {K : Addr → List Value → Prop} {K' : Addr → Prop} (k : Nat) (e : i = k) (hk : k < n) (h : K' ⟨r, k, none⟩) : elemVC μ (some ⟨r, 0, none⟩) n 1 i K K' := by
 subst e
 refine ptr_intro ⟨r, 0, none⟩ rfl (by omega) (by omega) ?_
 have : (⟨r, 0, none⟩ : Addr).add ((k : Int).toNat * 1) = ⟨r, k, none⟩ := by rw [Addr.add_lit']; simp
 rw [this]; exact h
theorem rdI {k : Nat} {K : List Value → Prop} (hk : k < d.size) (h : K [.int .i64 d[k]!]) : extVC μ (RowI h0 r ty rest d) ⟨r, k, none⟩ 1 K :=
 own_at (pre := []) (j := k) (by simp) (by rw [List.getElem?_map, arr_at hk]; rfl) h
theorem wrI {k : Nat} {v : Int} {K : Mem → Prop} (hk : k < d.size) (h : K (RowI h0 r ty rest (d.setIfInBounds k v))) : stoVC (RowI h0 r ty rest d) ⟨r, k, none⟩ [.int .i64 v] K := by
 refine sto_at (pre := []) (j := k) (by simp) (by simpa using hk) ?_
 have e : (d.toList.map (Value.int .i64)).set k (.int .i64 v) = (d.setIfInBounds k v).toList.map (Value.int .i64) := by
  rw [Array.toList_setIfInBounds, List.map_set]
 rw [e]; exact h
theorem isNaN_spec (x : Int) : Gives Try.prog 189 [.int .i64 x] μ (.bool false) := by
 refine Spec.mk Try.func189 (by kernel_rfl) ?_
 exact rGv (by simp) rfl
theorem Less_spec (x y : Int) : Gives Try.prog 181 [.int .i64 x, .int .i64 y] μ (.bool (ltInt x y)) := by
 refine Spec.mk Try.func181 (by kernel_rfl) ?_
 refine cGv (isNaN_spec x) ?_
 refine iIn (fun h => nomatch h) (fun _ => ?_)
 exact rGv rfl rfl
theorem insertionSort_spec {n a b : Nat} {cap : Nat} (hd : d.size = n) (ha : a ≤ b) (hb : b ≤ n) (hn : n ≤ 1000000000000) :
  SpecH Try.prog 175 [.slice (some ⟨r, 0, none⟩) n cap, .int .i64 a, .int .i64 b] μ (RowI h0 r ty rest d) fun v μ' h' => v = .tuple #[] ∧ μ' = μ ∧ h' = RowI h0 r ty rest (insertionSort ltInt d a b) := by
 refine SpecH.mk [] Try.func175 (by kernel_rfl) ?_
 rw [insertionSort]
 generalize hD : insOuter ltInt a b (a + 1) d = D
 refine nEq (x := ((a + 1 : Nat) : Int)) (by rw [wrap64 (by omega) (by omega)]; omega) ?_
 refine lIn (fun p : Nat × Array Int => a + 1 ≤ p.1 ∧ p.1 ≤ max b (a + 1) ∧ p.2.size = n ∧ insOuter ltInt a b p.1 p.2 = D)
  (fun (i, d) => ⟨[(0, .val (.slice (some ⟨r, 0, none⟩) n cap)), (1, .val (.int .i64 a)), (2, .val (.int .i64 b)), (6, .val (.int .i64 i))], [], 0, μ, RowI h0 r ty rest d⟩) (fun p => b - p.1)
  (a + 1, d) ⟨by omega, by omega, hd, hD⟩ (fun (_, _) => ⟨rfl, rfl⟩) ⟨⟨rfl, rfl, rfl, rfl, trivial⟩, trivial, rfl, rfl⟩ ?_
 rintro ⟨i, d1⟩ ⟨hi1, hi2, hs, hJ⟩
 dsimp only at hi1 hi2 hs hJ
 rw [insOuter] at hJ
 refine ifd (fun h => ?_) (fun h => ?_)
 ·rw [if_pos (by omega)] at hJ
  refine lIn (fun p : Nat × Array Int => p.1 < n ∧ p.2.size = n ∧ insInner ltInt a p.1 p.2 = insInner ltInt a i d1)
   (fun (j, d) => ⟨[(0, .val (.slice (some ⟨r, 0, none⟩) n cap)), (1, .val (.int .i64 a)), (2, .val (.int .i64 b)), (6, .val (.int .i64 i)), (7, .val (.int .i64 j))], [], 0, μ, RowI h0 r ty rest d⟩) (fun p => p.1)
   (i, d1) ⟨by omega, hs, rfl⟩ (fun (_, _) => ⟨rfl, rfl⟩) ⟨⟨rfl, rfl, rfl, rfl, rfl, trivial⟩, trivial, rfl, rfl⟩ ?_
  rintro ⟨j, d2⟩ ⟨hj, hs2, hJ2⟩
  dsimp only at hj hs2 hJ2
  refine ifd (fun hja => ?_) (fun hja => ?_)
  ·obtain ⟨j, rfl⟩ : ∃ k, j = k + 1 := ⟨j - 1, by omega⟩
   rw [insInner] at hJ2
   refine idxI (j + 1) rfl (by omega) ?_
   refine rdI (by omega) ?_
   refine nEq (x := ((j : Nat) : Int)) (by rw [wrap64 (by omega) (by omega)]; omega) ?_
   refine idxI j rfl (by omega) ?_
   refine rdI (by omega) ?_
   refine cGv (Less_spec _ _) ?_
   have g : decide (j + 1 > a) = true := decide_eq_true (by omega)
   refine iIn (fun hl => ?_) (fun hl => ?_)
   ·rw [g, hl, Bool.and_self, if_pos rfl] at hJ2
    refine nEq (x := ((j : Nat) : Int)) (by rw [wrap64 (by omega) (by omega)]; omega) ?_
    refine nEq (x := ((j : Nat) : Int)) (by rw [wrap64 (by omega) (by omega)]; omega) ?_
    refine idxI j rfl (by omega) ?_
    refine rdI (by omega) ?_
    refine idxI (j + 1) rfl (by omega) ?_
    refine rdI (by omega) ?_
    refine idxI (j + 1) rfl (by omega) ?_
    refine wrI (by omega) ?_
    refine idxI j rfl (by omega) ?_
    refine wrI (by simp; omega) ?_
    refine nEq (x := ((j : Nat) : Int)) (by rw [wrap64 (by omega) (by omega)]; omega) ?_
    exact ⟨(j, swp d2 (j + 1) j), ⟨by dsimp only; omega, by dsimp only; rw [swp_size]; exact hs2, hJ2⟩, by dsimp only; omega, ⟨⟨rfl, rfl, rfl, rfl, rfl, trivial⟩, trivial, rfl, rfl⟩⟩
   ·rw [hl, Bool.and_false, if_neg (by simp)] at hJ2
    exact num64 (by omega) (by omega) ⟨(i + 1, d2), ⟨by dsimp only; omega, by dsimp only; omega, hs2, by dsimp only; rw [hJ2]; exact hJ⟩, by dsimp only; omega, ⟨⟨rfl, rfl, rfl, rfl, trivial⟩, trivial, rfl, rfl⟩⟩
  ·have hJ3 : insInner ltInt a j d2 = d2 := by
    cases j with
    | zero => rfl
    | succ j => rw [insInner, if_neg]; simp; omega
   rw [hJ3] at hJ2
   exact num64 (by omega) (by omega) ⟨(i + 1, d2), ⟨by dsimp only; omega, by dsimp only; omega, hs2, by dsimp only; rw [hJ2]; exact hJ⟩, by dsimp only; omega, ⟨⟨rfl, rfl, rfl, rfl, trivial⟩, trivial, rfl, rfl⟩⟩
 ·rw [if_neg (by omega)] at hJ
  exact rPl ⟨rfl, rfl, by rw [hJ]⟩
end
end Go.Vx
namespace Go.Vx
open Go.Proofs Classical
open Go.Sort
section
variable {μ h0 : Mem} {r : Nat} {ty : TypeId} {rest : List Value} {d : Array Int}
theorem reverseRange_spec {n a b : Nat} {cap : Nat} (hd : d.size = n) (hb1 : 1 ≤ b) (ha : a ≤ b) (hb : b ≤ n) (hn : n ≤ 1000000000000) :
  SpecH Try.prog 179 [.slice (some ⟨r, 0, none⟩) n cap, .int .i64 a, .int .i64 b] μ (RowI h0 r ty rest d) fun v μ' h' => v = .tuple #[] ∧ μ' = μ ∧ h' = RowI h0 r ty rest (reverseRange d a b) := by
 refine SpecH.mk [] Try.func179 (by kernel_rfl) ?_
 rw [reverseRange]
 generalize hD : reverseLoop a (b - 1) d = D
 refine nEq (x := ((b - 1 : Nat) : Int)) (by rw [wrap64 (by omega) (by omega)]; omega) ?_
 refine lIn (fun p : Nat × Nat × Array Int => p.2.1 < n ∧ p.1 ≤ n ∧ p.2.2.size = n ∧ reverseLoop p.1 p.2.1 p.2.2 = D)
  (fun (i, j, d) => ⟨[(0, .val (.slice (some ⟨r, 0, none⟩) n cap)), (6, .val (.int .i64 i)), (7, .val (.int .i64 j))], [], 0, μ, RowI h0 r ty rest d⟩) (fun p => p.2.1)
  (a, b - 1, d) ⟨by dsimp only; omega, by dsimp only; omega, hd, hD⟩ (fun (_, _, _) => ⟨rfl, rfl⟩) ⟨⟨rfl, rfl, rfl, trivial⟩, trivial, rfl, rfl⟩ ?_
 rintro ⟨i, j, d1⟩ ⟨hj, hi, hs, hJ⟩
 dsimp only at hj hi hs hJ
 rw [reverseLoop] at hJ
 refine ifd (fun h => ?_) (fun h => ?_)
 ·rw [if_pos (by omega)] at hJ
  refine idxI (j) (by omega) (by omega) ?_
  refine rdI (by omega) ?_
  refine idxI (i) (by omega) (by omega) ?_
  refine rdI (by omega) ?_
  refine idxI (i) (by omega) (by omega) ?_
  refine wrI (by omega) ?_
  refine idxI (j) (by omega) (by omega) ?_
  refine wrI (by simp; omega) ?_
  refine nEq (x := ((i + 1 : Nat) : Int)) (by rw [wrap64 (by omega) (by omega)]; omega) ?_
  refine nEq (x := ((j - 1 : Nat) : Int)) (by rw [wrap64 (by omega) (by omega)]; omega) ?_
  exact ⟨(i + 1, j - 1, swp d1 i j), ⟨by dsimp only; omega, by dsimp only; omega, by dsimp only; rw [swp_size]; exact hs, hJ⟩, by dsimp only; omega, ⟨⟨rfl, rfl, rfl, trivial⟩, trivial, rfl, rfl⟩⟩
 ·rw [if_neg (by omega)] at hJ
  exact rPl ⟨rfl, rfl, by rw [hJ]⟩
theorem siftDown_spec {n lo hi first : Nat} {cap : Nat} (hd : d.size = n) (hb : first + hi ≤ n) (hl : lo ≤ n) (hn : n ≤ 1000000000000) :
  SpecH Try.prog 184 [.slice (some ⟨r, 0, none⟩) n cap, .int .i64 lo, .int .i64 hi, .int .i64 first] μ (RowI h0 r ty rest d) fun v μ' h' => v = .tuple #[] ∧ μ' = μ ∧ h' = RowI h0 r ty rest (siftDown ltInt hi first lo d) := by
 refine SpecH.mk [] Try.func184 (by kernel_rfl) ?_
 generalize hD : siftDown ltInt hi first lo d = D
 refine lIn (fun p : Nat × Array Int => p.1 ≤ n ∧ p.2.size = n ∧ siftDown ltInt hi first p.1 p.2 = D)
  (fun (i, d) => ⟨[(0, .val (.slice (some ⟨r, 0, none⟩) n cap)), (2, .val (.int .i64 hi)), (3, .val (.int .i64 first)), (8, .val (.int .i64 i))], [], 0, μ, RowI h0 r ty rest d⟩) (fun p => hi - p.1)
  (lo, d) ⟨hl, hd, hD⟩ (fun (_, _) => ⟨rfl, rfl⟩) ⟨⟨rfl, rfl, rfl, rfl, trivial⟩, trivial, rfl, rfl⟩ ?_
 rintro ⟨i, d1⟩ ⟨hi1, hs, hJ⟩
 dsimp only at hi1 hs hJ
 rw [siftDown] at hJ
 refine nEq (x := ((2 * i : Nat) : Int)) (by rw [wrap64 (by omega) (by omega)]; omega) ?_
 refine nEq (x := ((2 * i + 1 : Nat) : Int)) (by rw [wrap64 (by omega) (by omega)]; omega) ?_
 refine ifd (fun h => ?_) (fun h => ?_)
 ·rw [dif_pos (by omega)] at hJ
  exact rPl ⟨rfl, rfl, by rw [hJ]⟩
 rw [dif_neg (by omega)] at hJ
 refine nEq (x := ((2 * i + 1 + 1 : Nat) : Int)) (by rw [wrap64 (by omega) (by omega)]; omega) ?_
 refine ifd (fun h2 => ?_) (fun h2 => ?_)
 ·refine nEq (x := ((first + (2 * i + 1) : Nat) : Int)) (by rw [wrap64 (by omega) (by omega)]; omega) ?_
  refine idxI (first + (2 * i + 1)) (by omega) (by omega) ?_
  refine rdI (by omega) ?_
  refine nEq (x := ((first + (2 * i + 1) : Nat) : Int)) (by rw [wrap64 (by omega) (by omega)]; omega) ?_
  refine nEq (x := ((first + (2 * i + 1) + 1 : Nat) : Int)) (by rw [wrap64 (by omega) (by omega)]; omega) ?_
  refine idxI (first + (2 * i + 1) + 1) (by omega) (by omega) ?_
  refine rdI (by omega) ?_
  refine cGv (Less_spec _ _) ?_
  have g : decide (2 * i + 1 + 1 < hi) = true := decide_eq_true (by omega)
  refine iIn (fun hl => ?_) (fun hl => ?_)
  ·rw [g, hl, Bool.and_self, if_pos rfl] at hJ
   refine nEq (x := ((2 * i + 2 : Nat) : Int)) (by rw [wrap64 (by omega) (by omega)]; omega) ?_
   refine nEq (x := ((first + i : Nat) : Int)) (by rw [wrap64 (by omega) (by omega)]; omega) ?_
   refine idxI (first + i) (by omega) (by omega) ?_
   refine rdI (by omega) ?_
   refine nEq (x := ((first + (2 * i + 2) : Nat) : Int)) (by rw [wrap64 (by omega) (by omega)]; omega) ?_
   refine idxI (first + (2 * i + 2)) (by omega) (by omega) ?_
   refine rdI (by omega) ?_
   refine cGv (Less_spec _ _) ?_
   refine iIn (fun hl => ?_) (fun hl => ?_)
   ·rw [if_pos (by simpa using hl)] at hJ
    exact rPl ⟨rfl, rfl, by rw [hJ]⟩
   ·rw [if_neg (by simpa using hl)] at hJ
    try rw [dif_pos (by omega)] at hJ
    refine nEq (x := ((first + i : Nat) : Int)) (by rw [wrap64 (by omega) (by omega)]; omega) ?_
    refine nEq (x := ((first + (2 * i + 2) : Nat) : Int)) (by rw [wrap64 (by omega) (by omega)]; omega) ?_
    refine nEq (x := ((first + (2 * i + 2) : Nat) : Int)) (by rw [wrap64 (by omega) (by omega)]; omega) ?_
    refine idxI (first + (2 * i + 2)) (by omega) (by omega) ?_
    refine rdI (by omega) ?_
    refine nEq (x := ((first + i : Nat) : Int)) (by rw [wrap64 (by omega) (by omega)]; omega) ?_
    refine idxI (first + i) (by omega) (by omega) ?_
    refine rdI (by omega) ?_
    refine idxI (first + i) (by omega) (by omega) ?_
    refine wrI (by omega) ?_
    refine idxI (first + (2 * i + 2)) (by omega) (by omega) ?_
    refine wrI (by simp; omega) ?_
    exact ⟨(2 * i + 2, swp d1 (first + i) (first + (2 * i + 2))), ⟨by dsimp only; omega, by dsimp only; rw [swp_size]; exact hs, hJ⟩, by dsimp only; omega, ⟨⟨rfl, rfl, rfl, rfl, trivial⟩, trivial, rfl, rfl⟩⟩
  ·rw [hl, Bool.and_false, if_neg (by simp)] at hJ
   refine nEq (x := ((first + i : Nat) : Int)) (by rw [wrap64 (by omega) (by omega)]; omega) ?_
   refine idxI (first + i) (by omega) (by omega) ?_
   refine rdI (by omega) ?_
   refine nEq (x := ((first + (2 * i + 1) : Nat) : Int)) (by rw [wrap64 (by omega) (by omega)]; omega) ?_
   refine idxI (first + (2 * i + 1)) (by omega) (by omega) ?_
   refine rdI (by omega) ?_
   refine cGv (Less_spec _ _) ?_
   refine iIn (fun hl => ?_) (fun hl => ?_)
   ·rw [if_pos (by simpa using hl)] at hJ
    exact rPl ⟨rfl, rfl, by rw [hJ]⟩
   ·rw [if_neg (by simpa using hl)] at hJ
    try rw [dif_pos (by omega)] at hJ
    refine nEq (x := ((first + i : Nat) : Int)) (by rw [wrap64 (by omega) (by omega)]; omega) ?_
    refine nEq (x := ((first + (2 * i + 1) : Nat) : Int)) (by rw [wrap64 (by omega) (by omega)]; omega) ?_
    refine nEq (x := ((first + (2 * i + 1) : Nat) : Int)) (by rw [wrap64 (by omega) (by omega)]; omega) ?_
    refine idxI (first + (2 * i + 1)) (by omega) (by omega) ?_
    refine rdI (by omega) ?_
    refine nEq (x := ((first + i : Nat) : Int)) (by rw [wrap64 (by omega) (by omega)]; omega) ?_
    refine idxI (first + i) (by omega) (by omega) ?_
    refine rdI (by omega) ?_
    refine idxI (first + i) (by omega) (by omega) ?_
    refine wrI (by omega) ?_
    refine idxI (first + (2 * i + 1)) (by omega) (by omega) ?_
    refine wrI (by simp; omega) ?_
    exact ⟨(2 * i + 1, swp d1 (first + i) (first + (2 * i + 1))), ⟨by dsimp only; omega, by dsimp only; rw [swp_size]; exact hs, hJ⟩, by dsimp only; omega, ⟨⟨rfl, rfl, rfl, rfl, trivial⟩, trivial, rfl, rfl⟩⟩
 ·have g : decide (2 * i + 1 + 1 < hi) = false := decide_eq_false (by omega)
  rw [g, Bool.false_and, if_neg (by simp)] at hJ
  refine nEq (x := ((first + i : Nat) : Int)) (by rw [wrap64 (by omega) (by omega)]; omega) ?_
  refine idxI (first + i) (by omega) (by omega) ?_
  refine rdI (by omega) ?_
  refine nEq (x := ((first + (2 * i + 1) : Nat) : Int)) (by rw [wrap64 (by omega) (by omega)]; omega) ?_
  refine idxI (first + (2 * i + 1)) (by omega) (by omega) ?_
  refine rdI (by omega) ?_
  refine cGv (Less_spec _ _) ?_
  refine iIn (fun hl => ?_) (fun hl => ?_)
  ·rw [if_pos (by simpa using hl)] at hJ
   exact rPl ⟨rfl, rfl, by rw [hJ]⟩
  ·rw [if_neg (by simpa using hl)] at hJ
   try rw [dif_pos (by omega)] at hJ
   refine nEq (x := ((first + i : Nat) : Int)) (by rw [wrap64 (by omega) (by omega)]; omega) ?_
   refine nEq (x := ((first + (2 * i + 1) : Nat) : Int)) (by rw [wrap64 (by omega) (by omega)]; omega) ?_
   refine nEq (x := ((first + (2 * i + 1) : Nat) : Int)) (by rw [wrap64 (by omega) (by omega)]; omega) ?_
   refine idxI (first + (2 * i + 1)) (by omega) (by omega) ?_
   refine rdI (by omega) ?_
   refine nEq (x := ((first + i : Nat) : Int)) (by rw [wrap64 (by omega) (by omega)]; omega) ?_
   refine idxI (first + i) (by omega) (by omega) ?_
   refine rdI (by omega) ?_
   refine idxI (first + i) (by omega) (by omega) ?_
   refine wrI (by omega) ?_
   refine idxI (first + (2 * i + 1)) (by omega) (by omega) ?_
   refine wrI (by simp; omega) ?_
   exact ⟨(2 * i + 1, swp d1 (first + i) (first + (2 * i + 1))), ⟨by dsimp only; omega, by dsimp only; rw [swp_size]; exact hs, hJ⟩, by dsimp only; omega, ⟨⟨rfl, rfl, rfl, rfl, trivial⟩, trivial, rfl, rfl⟩⟩
theorem siftDown_size (hi first : Nat) : ∀ (m root : Nat) (d : Array Int), hi - root ≤ m → (siftDown ltInt hi first root d).size = d.size := by
 intro m
 induction m with
 | zero =>
  intro root d h
  rw [siftDown, dif_pos (by omega)]
 | succ m ih =>
  intro root d h
  rw [siftDown]
  repeat' split
  all_goals first
   | rfl
   | (rw [ih _ _ (by omega), Go.Sort.swp_size])
theorem heapSort_spec {n a b : Nat} {cap : Nat} (hd : d.size = n) (ha : a < b) (hb : b ≤ n) (hn : n ≤ 1000000000000) :
  SpecH Try.prog 176 [.slice (some ⟨r, 0, none⟩) n cap, .int .i64 a, .int .i64 b] μ (RowI h0 r ty rest d) fun v μ' h' => v = .tuple #[] ∧ μ' = μ ∧ h' = RowI h0 r ty rest (heapSort ltInt d a b) := by
 refine SpecH.mk [] Try.func176 (by kernel_rfl) ?_
 rw [heapSort]
 generalize hD1 : heapBuild ltInt (b - a) a ((b - a - 1) / 2 + 1) d = D1
 generalize hD : heapPop ltInt a (b - a) D1 = D
 refine nEq (x := ((b - a : Nat) : Int)) (by rw [wrap64 (by omega) (by omega)]; omega) ?_
 refine nEq (x := ((b - a - 1 : Nat) : Int)) (by rw [wrap64 (by omega) (by omega)]; omega) ?_
 refine need_intro (by decide) ?_
 refine nEq (x := (((b - a - 1) / 2 + 1 : Nat) : Int) - 1) (by rw [Int.tdiv_eq_ediv_of_nonneg (by omega), wrap64 (by omega) (by omega)]; omega) ?_
 refine lIn (fun p : Nat × Array Int => p.1 ≤ b - a ∧ p.2.size = n ∧ heapBuild ltInt (b - a) a p.1 p.2 = D1)
  (fun (k, d) => ⟨[(0, .val (.slice (some ⟨r, 0, none⟩) n cap)), (6, .val (.int .i64 a)), (7, .val (.int .i64 0)), (8, .val (.int .i64 (b - a : Nat))), (9, .val (.int .i64 ((k : Int) - 1)))], [], 0, μ, RowI h0 r ty rest d⟩) (fun p => p.1)
  ((b - a - 1) / 2 + 1, d) ⟨by dsimp only; omega, hd, hD1⟩ (fun (_, _) => ⟨rfl, rfl⟩) ⟨⟨rfl, rfl, rfl, rfl, rfl, trivial⟩, trivial, rfl, rfl⟩ ?_
 rintro ⟨k, d1⟩ ⟨hk, hs, hJ⟩
 dsimp only at hk hs hJ
 refine ifd (fun h => ?_) (fun h => ?_)
 ·obtain ⟨k, rfl⟩ : ∃ m, k = m + 1 := ⟨k - 1, by omega⟩
  rw [heapBuild] at hJ
  have e : (((k + 1 : Nat) : Int) - 1) = (k : Nat) := by omega
  rw [e]
  refine cOw (siftDown_spec (lo := k) (hi := b - a) (first := a) hs (by omega) (by omega) hn) fun v μ' h' hle hap hR => ?_
  obtain ⟨rfl, e2, rfl⟩ := hR
  obtain rfl := e2.symm
  refine nEq (x := (k : Int) - 1) (by rw [wrap64 (by omega) (by omega)]) ?_
  exact ⟨(k, siftDown ltInt (b - a) a k d1), ⟨by dsimp only; omega, by dsimp only; rw [siftDown_size _ _ _ _ _ (Nat.le_refl _)]; exact hs, hJ⟩, by dsimp only; omega, ⟨⟨rfl, rfl, rfl, rfl, rfl, trivial⟩, trivial, rfl, rfl⟩⟩
 obtain rfl : k = 0 := by omega
 have hJ : d1 = D1 := hJ
 subst hJ
 refine nEq (x := ((b - a : Nat) : Int) - 1) (by rw [wrap64 (by omega) (by omega)]) ?_
 refine lIn (fun p : Nat × Array Int => p.1 ≤ b - a ∧ p.2.size = n ∧ heapPop ltInt a p.1 p.2 = D)
  (fun (k, d) => ⟨[(0, .val (.slice (some ⟨r, 0, none⟩) n cap)), (6, .val (.int .i64 a)), (7, .val (.int .i64 0)), (10, .val (.int .i64 ((k : Int) - 1)))], [], 0, μ, RowI h0 r ty rest d⟩) (fun p => p.1)
  (b - a, d1) ⟨by dsimp only; omega, hs, hD⟩ (fun (_, _) => ⟨rfl, rfl⟩) ⟨⟨rfl, rfl, rfl, rfl, trivial⟩, trivial, rfl, rfl⟩ ?_
 rintro ⟨k, d2⟩ ⟨hk, hs2, hJ⟩
 dsimp only at hk hs2 hJ
 refine ifd (fun h => ?_) (fun h => ?_)
 ·obtain ⟨k, rfl⟩ : ∃ m, k = m + 1 := ⟨k - 1, by omega⟩
  rw [heapPop] at hJ
  have e : (((k + 1 : Nat) : Int) - 1) = (k : Nat) := by omega
  rw [e]
  refine nEq (x := ((a + k : Nat) : Int)) (by rw [wrap64 (by omega) (by omega)]; omega) ?_
  refine nEq (x := ((a + k : Nat) : Int)) (by rw [wrap64 (by omega) (by omega)]; omega) ?_
  refine idxI (a + k) (by omega) (by omega) ?_
  refine rdI (by omega) ?_
  refine idxI (a) (by omega) (by omega) ?_
  refine rdI (by omega) ?_
  refine idxI (a) (by omega) (by omega) ?_
  refine wrI (by omega) ?_
  refine idxI (a + k) (by omega) (by omega) ?_
  refine wrI (by simp; omega) ?_
  refine cOw (siftDown_spec (d := swp d2 a (a + k)) (lo := 0) (hi := k) (first := a) ((Go.Sort.swp_size _ _ _).trans hs2) (by omega) (by omega) hn) fun v μ' h' hle hap hR => ?_
  obtain ⟨rfl, e2, rfl⟩ := hR
  obtain rfl := e2.symm
  refine nEq (x := (k : Int) - 1) (by rw [wrap64 (by omega) (by omega)]) ?_
  exact ⟨(k, _), ⟨by dsimp only; omega, by dsimp only; rw [siftDown_size _ _ _ _ _ (Nat.le_refl _), Go.Sort.swp_size]; exact hs2, hJ⟩, by dsimp only; omega, ⟨⟨rfl, rfl, rfl, rfl, trivial⟩, trivial, rfl, rfl⟩⟩
 obtain rfl : k = 0 := by omega
 have hJ : d2 = D := hJ
 subst hJ
 exact rPl ⟨rfl, rfl, rfl⟩
end
end Go.Vx
namespace Go.Vx
open Go.Proofs Classical
open Go.Sort
section
variable {μ h0 : Mem} {r rs : Nat} {ty : TypeId} {rest : List Value} {d : Array Int} {s : Int}
theorem rdS {K : List Value → Prop} (hne : rs ≠ r) (h : K [.int .i64 s]) : extVC μ (RowS h0 r ty rest d rs s) ⟨rs, 0, none⟩ 1 K := oIn _ rfl (box_at (RowS.at hne)) h
theorem Mem.set_comm {m : Mem} {a b : Nat} {x y : Obj} (h : a ≠ b) : (m.set a x).set b y = (m.set b y).set a x := by
 funext k
 simp only [Mem.set_get]
 by_cases h1 : k = b
 ·subst h1; rw [if_pos rfl, if_neg (fun e => h e.symm), if_pos rfl]
 ·rw [if_neg h1]
  by_cases h2 : k = a
  ·rw [if_pos h2, if_pos h2]
  ·rw [if_neg h2, if_neg h2, if_neg h1]
theorem wrS {v : Int} {K : Mem → Prop} (hne : rs ≠ r) (h : K (RowS h0 r ty rest d rs v)) : stoVC (RowS h0 r ty rest d rs s) ⟨rs, 0, none⟩ [.int .i64 v] K := by
 refine sIn [.int .i64 s] 3 (RowS.at hne) rfl (Nat.le_refl _) ?_
 have e : Mem.set (RowS h0 r ty rest d rs s) rs (.cells #[.int .i64 v] 3 (0, 0)) = RowS h0 r ty rest d rs v := by
  rw [RowS, RowI, Mem.set_comm (fun e => hne e.symm), Mem.set_set]
  rfl
 show K (Mem.set (RowS h0 r ty rest d rs s) rs (.cells #[.int .i64 v] 3 (0, 0)))
 rw [e]; exact h
theorem order2_spec {n a b cap : Nat} (hne : rs ≠ r) (hd : d.size = n) (ha : a < n) (hb : b < n) :
  SpecH Try.prog 190 [.slice (some ⟨r, 0, none⟩) n cap, .int .i64 a, .int .i64 b, .pointer (some ⟨rs, 0, none⟩)] μ (RowS h0 r ty rest d rs s) fun v μ' h' =>
   ∃ x y : Nat, ((x = a ∧ y = b) ∨ (x = b ∧ y = a)) ∧ v = .tuple #[.int .i64 x, .int .i64 y] ∧ μ' = μ ∧ ∃ s', h' = RowS h0 r ty rest d rs s' := by
 refine SpecH.mk [] Try.func190 (by kernel_rfl) ?_
 refine idxI (b) (by omega) (by omega) ?_
 refine rdI (by omega) ?_
 refine idxI (a) (by omega) (by omega) ?_
 refine rdI (by omega) ?_
 refine cGv (Less_spec _ _) ?_
 refine iIn (fun hl => ?_) (fun hl => ?_)
 ·refine rdS hne ?_
  refine num_intro fun x _ => ?_
  refine wrS hne ?_
  exact rPl ⟨b, a, .inr ⟨rfl, rfl⟩, rfl, rfl, _, rfl⟩
 ·exact rPl ⟨a, b, .inl ⟨rfl, rfl⟩, rfl, rfl, _, rfl⟩
theorem median_spec {n a b c cap : Nat} (hne : rs ≠ r) (hd : d.size = n) (ha : a < n) (hb : b < n) (hc : c < n) :
  SpecH Try.prog 188 [.slice (some ⟨r, 0, none⟩) n cap, .int .i64 a, .int .i64 b, .int .i64 c, .pointer (some ⟨rs, 0, none⟩)] μ (RowS h0 r ty rest d rs s) fun v μ' h' =>
   ∃ x : Nat, (x = a ∨ x = b ∨ x = c) ∧ v = .int .i64 x ∧ μ' = μ ∧ ∃ s', h' = RowS h0 r ty rest d rs s' := by
 refine SpecH.mk [] Try.func188 (by kernel_rfl) ?_
 refine cOw (order2_spec hne hd ha hb) fun v μ' h' hle hap hR => ?_
 obtain ⟨x1, y1, o1, rfl, e1, s1, rfl⟩ := hR
 obtain rfl := e1.symm
 refine cOw (order2_spec (a := y1) (b := c) hne hd (by omega) hc) fun v μ' h' hle hap hR => ?_
 obtain ⟨x2, y2, o2, rfl, e2, s2, rfl⟩ := hR
 obtain rfl := e2.symm
 refine cOw (order2_spec (a := x1) (b := x2) hne hd (by omega) (by omega)) fun v μ' h' hle hap hR => ?_
 obtain ⟨x3, y3, o3, rfl, e3, s3, rfl⟩ := hR
 obtain rfl := e3.symm
 exact rPl ⟨y3, by omega, rfl, rfl, _, rfl⟩
theorem medianAdjacent_spec {n a cap : Nat} (hne : rs ≠ r) (hd : d.size = n) (ha : 1 ≤ a) (hb : a + 1 < n) (hn : n ≤ 1000000000000) :
  SpecH Try.prog 187 [.slice (some ⟨r, 0, none⟩) n cap, .int .i64 a, .pointer (some ⟨rs, 0, none⟩)] μ (RowS h0 r ty rest d rs s) fun v μ' h' =>
   ∃ x : Nat, (x + 1 = a ∨ x = a ∨ x = a + 1) ∧ v = .int .i64 x ∧ μ' = μ ∧ ∃ s', h' = RowS h0 r ty rest d rs s' := by
 refine SpecH.mk [] Try.func187 (by kernel_rfl) ?_
 refine nEq (x := ((a - 1 : Nat) : Int)) (by rw [wrap64 (by omega) (by omega)]; omega) ?_
 refine nEq (x := ((a + 1 : Nat) : Int)) (by rw [wrap64 (by omega) (by omega)]; omega) ?_
 refine cOw (median_spec (a := a - 1) (b := a) (c := a + 1) hne hd (by omega) (by omega) (by omega)) fun v μ' h' hle hap hR => ?_
 obtain ⟨x1, o1, rfl, e1, s1, rfl⟩ := hR
 obtain rfl := e1.symm
 exact rPl ⟨x1, by omega, rfl, rfl, _, rfl⟩
set_option maxHeartbeats 4000000 in
theorem choosePivot_spec {n a b cap : Nat} (hr : h0 r = none) (hd : d.size = n) (ha : a < b) (hb : b ≤ n) (hn : n ≤ 1000000000000) :
  SpecH Try.prog 178 [.slice (some ⟨r, 0, none⟩) n cap, .int .i64 a, .int .i64 b] μ (RowI h0 r ty rest d) fun v _μ' h' =>
   ∃ p k : Nat, a ≤ p ∧ p < b ∧ k ≤ 2 ∧ v = .tuple #[.int .i64 p, .int .i64 k] ∧ h' = RowI h0 r ty rest d := by
 refine SpecH.mk [9] Try.func178 (by kernel_rfl) ?_
 refine nEq (x := ((b - a : Nat) : Int)) (by rw [wrap64 (by omega) (by omega)]; omega) ?_
 intro rs hm ho
 have hne : rs ≠ r := fun e => by
  subst e
  have : RowI h0 rs ty rest d rs = none := ho
  rw [RowI, Mem.set_at] at this; cases this
 have hs0 : h0 rs = none := by
  have : RowI h0 r ty rest d rs = none := ho
  rwa [RowI, Mem.set_ne hne] at this
 have e0 : Mem.set (RowI h0 r ty rest d) rs (.cells #[.int .i64 0] 3 (0, 0)) = RowS h0 r ty rest d rs 0 := by
  rw [RowS, RowI, RowI, Mem.set_comm (fun e => hne e.symm)]
 generalize hH : Mem.set (RowI h0 r ty rest d) rs _ = H
 obtain rfl : H = RowS h0 r ty rest d rs 0 := hH.symm.trans e0
 clear e0 hH ho hm
 refine need_intro (by decide) ?_
 refine nEq (x := (((b - a) / 4 : Nat) : Int)) (by rw [Int.tdiv_eq_ediv_of_nonneg (by omega), wrap64 (by omega) (by omega)]; omega) ?_
 refine nEq (x := (((b - a) / 4 * 1 : Nat) : Int)) (by rw [wrap64 (by omega) (by omega)]; omega) ?_
 refine nEq (x := ((a + (b - a) / 4 * 1 : Nat) : Int)) (by rw [wrap64 (by omega) (by omega)]; omega) ?_
 refine need_intro (by decide) ?_
 refine nEq (x := (((b - a) / 4 : Nat) : Int)) (by rw [Int.tdiv_eq_ediv_of_nonneg (by omega), wrap64 (by omega) (by omega)]; omega) ?_
 refine nEq (x := (((b - a) / 4 * 2 : Nat) : Int)) (by rw [wrap64 (by omega) (by omega)]; omega) ?_
 refine nEq (x := ((a + (b - a) / 4 * 2 : Nat) : Int)) (by rw [wrap64 (by omega) (by omega)]; omega) ?_
 refine need_intro (by decide) ?_
 refine nEq (x := (((b - a) / 4 : Nat) : Int)) (by rw [Int.tdiv_eq_ediv_of_nonneg (by omega), wrap64 (by omega) (by omega)]; omega) ?_
 refine nEq (x := (((b - a) / 4 * 3 : Nat) : Int)) (by rw [wrap64 (by omega) (by omega)]; omega) ?_
 refine nEq (x := ((a + (b - a) / 4 * 3 : Nat) : Int)) (by rw [wrap64 (by omega) (by omega)]; omega) ?_
 refine ifd (fun h8 => ?_) (fun h8 => ?_)
 ·refine ifd (fun h50 => ?_) (fun h50 => ?_)
  ·refine cOw (medianAdjacent_spec (a := a + (b - a) / 4 * 1) hne hd (by omega) (by omega) hn) fun v μ' h' hle hap hR => ?_
   obtain ⟨x1, o1, rfl, e1, s1, rfl⟩ := hR
   obtain rfl := e1.symm
   refine cOw (medianAdjacent_spec (a := a + (b - a) / 4 * 2) hne hd (by omega) (by omega) hn) fun v μ' h' hle hap hR => ?_
   obtain ⟨x2, o2, rfl, e1, s2, rfl⟩ := hR
   obtain rfl := e1.symm
   refine cOw (medianAdjacent_spec (a := a + (b - a) / 4 * 3) hne hd (by omega) (by omega) hn) fun v μ' h' hle hap hR => ?_
   obtain ⟨x3, o3, rfl, e1, s3, rfl⟩ := hR
   obtain rfl := e1.symm
   refine cOw (median_spec (a := x1) (b := x2) (c := x3) hne hd (by omega) (by omega) (by omega)) fun v μ' h' hle hap hR => ?_
   obtain ⟨x4, o4, rfl, e1, s4, rfl⟩ := hR
   obtain rfl := e1.symm
   refine rdS hne ?_
   refine ifd (fun h1 => ?_) (fun h1 => ?_)
   ·exact ret_own _ _ (RowS.parts hne hs0) ⟨x4, 1, by omega, by omega, by omega, rfl, rfl⟩
   refine ifd (fun h1 => ?_) (fun h1 => ?_)
   ·exact ret_own _ _ (RowS.parts hne hs0) ⟨x4, 2, by omega, by omega, by omega, rfl, rfl⟩
   exact ret_own _ _ (RowS.parts hne hs0) ⟨x4, 0, by omega, by omega, by omega, rfl, rfl⟩
  ·refine cOw (median_spec (a := a + (b - a) / 4 * 1) (b := a + (b - a) / 4 * 2) (c := a + (b - a) / 4 * 3) hne hd (by omega) (by omega) (by omega)) fun v μ' h' hle hap hR => ?_
   obtain ⟨x4, o4, rfl, e1, s4, rfl⟩ := hR
   obtain rfl := e1.symm
   refine rdS hne ?_
   refine ifd (fun h1 => ?_) (fun h1 => ?_)
   ·exact ret_own _ _ (RowS.parts hne hs0) ⟨x4, 1, by omega, by omega, by omega, rfl, rfl⟩
   refine ifd (fun h1 => ?_) (fun h1 => ?_)
   ·exact ret_own _ _ (RowS.parts hne hs0) ⟨x4, 2, by omega, by omega, by omega, rfl, rfl⟩
   exact ret_own _ _ (RowS.parts hne hs0) ⟨x4, 0, by omega, by omega, by omega, rfl, rfl⟩
 ·refine rdS hne ?_
  refine ifd (fun h1 => ?_) (fun h1 => ?_)
  ·exact ret_own _ _ (RowS.parts hne hs0) ⟨a + (b - a) / 4 * 2, 1, by omega, by omega, by omega, rfl, rfl⟩
  refine ifd (fun h1 => ?_) (fun h1 => ?_)
  ·exact ret_own _ _ (RowS.parts hne hs0) ⟨a + (b - a) / 4 * 2, 2, by omega, by omega, by omega, rfl, rfl⟩
  exact ret_own _ _ (RowS.parts hne hs0) ⟨a + (b - a) / 4 * 2, 0, by omega, by omega, by omega, rfl, rfl⟩
end
end Go.Vx
namespace Go.Vx
open Go.Proofs Classical
open Go.Sort
theorem bitsLen_shift {x k : Nat} (h : 2 ^ k ≤ x) : bitsLen x = bitsLen (x / 2 ^ k) + k := by
 have hpos : 0 < 2 ^ k := Nat.two_pow_pos k
 apply Nat.le_antisymm
 ·rw [bitsLen_le_iff, Nat.pow_add]
  have := lt_two_pow_bitsLen (x / 2 ^ k)
  rw [Nat.div_lt_iff_lt_mul hpos] at this
  exact this
 ·have h1 : k < bitsLen x := by
   rcases Nat.lt_or_ge k (bitsLen x) with h2 | h2
   ·exact h2
   ·have := (bitsLen_le_iff x k).1 h2; omega
  have h3 : bitsLen (x / 2 ^ k) ≤ bitsLen x - k := by
   rw [bitsLen_le_iff, Nat.div_lt_iff_lt_mul hpos, ← Nat.pow_add]
   have : bitsLen x - k + k = bitsLen x := by omega
   rw [this]; exact lt_two_pow_bitsLen x
  omega
section
variable {μ : Mem}
theorem Len64_spec {x : Nat} (hx : x < 18446744073709551616) : Gives Try.prog 151 [.int .u64 x] μ (.int .i64 (bitsLen x)) := by
 obtain ⟨L, hL⟩ : ∃ L, L = bitsLen x := ⟨_, rfl⟩
 rw [← hL]
 refine Spec.mk Try.func151 (by kernel_rfl) ?_
 refine ifd (fun h1 => ?_) (fun h1 => ?_)
 ·refine need_intro (by decide) ?_
  refine nEq (x := ((x / 4294967296 : Nat) : Int)) (by
   show (x : Int).fdiv 4294967296 = _
   rw [Int.fdiv_eq_ediv_of_nonneg _ (by decide)]; rfl) ?_
  have b1 : bitsLen x = bitsLen (x / 4294967296) + 32 := bitsLen_shift (k := 32) (by omega)
  have b2 : x / 4294967296 < 4294967296 := by omega
  generalize x / 4294967296 = y at *
  refine ifd (fun h2 => ?_) (fun h2 => ?_)
  ·refine need_intro (by decide) ?_
   refine nEq (x := ((y / 65536 : Nat) : Int)) (by
    show (y : Int).fdiv 65536 = _
    rw [Int.fdiv_eq_ediv_of_nonneg _ (by decide)]; rfl) ?_
   have b3 : bitsLen y = bitsLen (y / 65536) + 16 := bitsLen_shift (k := 16) (by omega)
   have b4 : y / 65536 < 65536 := by omega
   generalize y / 65536 = z at *
   refine nEq (x := 32 + 16) (by decide) ?_
   refine ifd (fun h3 => ?_) (fun h3 => ?_)
   ·refine need_intro (by decide) ?_
    refine nEq (x := ((z / 256 : Nat) : Int)) (by
     show (z : Int).fdiv 256 = _
     rw [Int.fdiv_eq_ediv_of_nonneg _ (by decide)]; rfl) ?_
    have b5 : bitsLen z = bitsLen (z / 256) + 8 := bitsLen_shift (k := 8) (by omega)
    have b6 : z / 256 < 256 := by omega
    generalize z / 256 = w at *
    refine nEq (x := 32 + 16 + 8) (by decide) ?_
    have b7 : bitsLen w ≤ 8 := (bitsLen_le_iff w 8).2 b6
    refine nEq (x := (w : Int)) (by
     show (w : Int) % 256 = _
     omega) ?_
    refine byte_intro w (UInt8.ofNat (bitsLen w)) rfl ?_ ?_
    ·clear b5 b7
     try clear hw
     revert w
     decide +kernel
    refine nEq (x := (bitsLen w : Int)) (by
     rw [UInt8.toNat_ofNat', Nat.mod_eq_of_lt (by omega), wrap64 (by omega) (by omega)]) ?_
    refine nEq (x := (L : Int)) (by rw [wrap64 (by omega) (by omega)]; omega) ?_
    exact rGv rfl rfl
   ·obtain ⟨w, hw⟩ : ∃ w, w = z := ⟨_, rfl⟩
    have b5 : bitsLen z = bitsLen w + 0 := by rw [hw]; rfl
    have b6 : w < 256 := by omega
    rw [← hw]
    have b7 : bitsLen w ≤ 8 := (bitsLen_le_iff w 8).2 b6
    refine nEq (x := (w : Int)) (by
     show (w : Int) % 256 = _
     omega) ?_
    refine byte_intro w (UInt8.ofNat (bitsLen w)) rfl ?_ ?_
    ·clear b5 b7
     try clear hw
     revert w
     decide +kernel
    refine nEq (x := (bitsLen w : Int)) (by
     rw [UInt8.toNat_ofNat', Nat.mod_eq_of_lt (by omega), wrap64 (by omega) (by omega)]) ?_
    refine nEq (x := (L : Int)) (by rw [wrap64 (by omega) (by omega)]; omega) ?_
    exact rGv rfl rfl
  ·obtain ⟨z, hz⟩ : ∃ z, z = y := ⟨_, rfl⟩
   have b3 : bitsLen y = bitsLen z + 0 := by rw [hz]; rfl
   have b4 : z < 65536 := by omega
   rw [← hz]
   refine ifd (fun h3 => ?_) (fun h3 => ?_)
   ·refine need_intro (by decide) ?_
    refine nEq (x := ((z / 256 : Nat) : Int)) (by
     show (z : Int).fdiv 256 = _
     rw [Int.fdiv_eq_ediv_of_nonneg _ (by decide)]; rfl) ?_
    have b5 : bitsLen z = bitsLen (z / 256) + 8 := bitsLen_shift (k := 8) (by omega)
    have b6 : z / 256 < 256 := by omega
    generalize z / 256 = w at *
    refine nEq (x := 32 + 8) (by decide) ?_
    have b7 : bitsLen w ≤ 8 := (bitsLen_le_iff w 8).2 b6
    refine nEq (x := (w : Int)) (by
     show (w : Int) % 256 = _
     omega) ?_
    refine byte_intro w (UInt8.ofNat (bitsLen w)) rfl ?_ ?_
    ·clear b5 b7
     try clear hw
     revert w
     decide +kernel
    refine nEq (x := (bitsLen w : Int)) (by
     rw [UInt8.toNat_ofNat', Nat.mod_eq_of_lt (by omega), wrap64 (by omega) (by omega)]) ?_
    refine nEq (x := (L : Int)) (by rw [wrap64 (by omega) (by omega)]; omega) ?_
    exact rGv rfl rfl
   ·obtain ⟨w, hw⟩ : ∃ w, w = z := ⟨_, rfl⟩
    have b5 : bitsLen z = bitsLen w + 0 := by rw [hw]; rfl
    have b6 : w < 256 := by omega
    rw [← hw]
    have b7 : bitsLen w ≤ 8 := (bitsLen_le_iff w 8).2 b6
    refine nEq (x := (w : Int)) (by
     show (w : Int) % 256 = _
     omega) ?_
    refine byte_intro w (UInt8.ofNat (bitsLen w)) rfl ?_ ?_
    ·clear b5 b7
     try clear hw
     revert w
     decide +kernel
    refine nEq (x := (bitsLen w : Int)) (by
     rw [UInt8.toNat_ofNat', Nat.mod_eq_of_lt (by omega), wrap64 (by omega) (by omega)]) ?_
    refine nEq (x := (L : Int)) (by rw [wrap64 (by omega) (by omega)]; omega) ?_
    exact rGv rfl rfl
 ·obtain ⟨y, hy⟩ : ∃ y, y = x := ⟨_, rfl⟩
  have b1 : bitsLen x = bitsLen y + 0 := by rw [hy]; rfl
  have b2 : y < 4294967296 := by omega
  rw [← hy]
  refine ifd (fun h2 => ?_) (fun h2 => ?_)
  ·refine need_intro (by decide) ?_
   refine nEq (x := ((y / 65536 : Nat) : Int)) (by
    show (y : Int).fdiv 65536 = _
    rw [Int.fdiv_eq_ediv_of_nonneg _ (by decide)]; rfl) ?_
   have b3 : bitsLen y = bitsLen (y / 65536) + 16 := bitsLen_shift (k := 16) (by omega)
   have b4 : y / 65536 < 65536 := by omega
   generalize y / 65536 = z at *
   refine nEq (x := 0 + 16) (by decide) ?_
   refine ifd (fun h3 => ?_) (fun h3 => ?_)
   ·refine need_intro (by decide) ?_
    refine nEq (x := ((z / 256 : Nat) : Int)) (by
     show (z : Int).fdiv 256 = _
     rw [Int.fdiv_eq_ediv_of_nonneg _ (by decide)]; rfl) ?_
    have b5 : bitsLen z = bitsLen (z / 256) + 8 := bitsLen_shift (k := 8) (by omega)
    have b6 : z / 256 < 256 := by omega
    generalize z / 256 = w at *
    refine nEq (x := 0 + 16 + 8) (by decide) ?_
    have b7 : bitsLen w ≤ 8 := (bitsLen_le_iff w 8).2 b6
    refine nEq (x := (w : Int)) (by
     show (w : Int) % 256 = _
     omega) ?_
    refine byte_intro w (UInt8.ofNat (bitsLen w)) rfl ?_ ?_
    ·clear b5 b7
     try clear hw
     revert w
     decide +kernel
    refine nEq (x := (bitsLen w : Int)) (by
     rw [UInt8.toNat_ofNat', Nat.mod_eq_of_lt (by omega), wrap64 (by omega) (by omega)]) ?_
    refine nEq (x := (L : Int)) (by rw [wrap64 (by omega) (by omega)]; omega) ?_
    exact rGv rfl rfl
   ·obtain ⟨w, hw⟩ : ∃ w, w = z := ⟨_, rfl⟩
    have b5 : bitsLen z = bitsLen w + 0 := by rw [hw]; rfl
    have b6 : w < 256 := by omega
    rw [← hw]
    have b7 : bitsLen w ≤ 8 := (bitsLen_le_iff w 8).2 b6
    refine nEq (x := (w : Int)) (by
     show (w : Int) % 256 = _
     omega) ?_
    refine byte_intro w (UInt8.ofNat (bitsLen w)) rfl ?_ ?_
    ·clear b5 b7
     try clear hw
     revert w
     decide +kernel
    refine nEq (x := (bitsLen w : Int)) (by
     rw [UInt8.toNat_ofNat', Nat.mod_eq_of_lt (by omega), wrap64 (by omega) (by omega)]) ?_
    refine nEq (x := (L : Int)) (by rw [wrap64 (by omega) (by omega)]; omega) ?_
    exact rGv rfl rfl
  ·obtain ⟨z, hz⟩ : ∃ z, z = y := ⟨_, rfl⟩
   have b3 : bitsLen y = bitsLen z + 0 := by rw [hz]; rfl
   have b4 : z < 65536 := by omega
   rw [← hz]
   refine ifd (fun h3 => ?_) (fun h3 => ?_)
   ·refine need_intro (by decide) ?_
    refine nEq (x := ((z / 256 : Nat) : Int)) (by
     show (z : Int).fdiv 256 = _
     rw [Int.fdiv_eq_ediv_of_nonneg _ (by decide)]; rfl) ?_
    have b5 : bitsLen z = bitsLen (z / 256) + 8 := bitsLen_shift (k := 8) (by omega)
    have b6 : z / 256 < 256 := by omega
    generalize z / 256 = w at *
    refine nEq (x := 0 + 8) (by decide) ?_
    have b7 : bitsLen w ≤ 8 := (bitsLen_le_iff w 8).2 b6
    refine nEq (x := (w : Int)) (by
     show (w : Int) % 256 = _
     omega) ?_
    refine byte_intro w (UInt8.ofNat (bitsLen w)) rfl ?_ ?_
    ·clear b5 b7
     try clear hw
     revert w
     decide +kernel
    refine nEq (x := (bitsLen w : Int)) (by
     rw [UInt8.toNat_ofNat', Nat.mod_eq_of_lt (by omega), wrap64 (by omega) (by omega)]) ?_
    refine nEq (x := (L : Int)) (by rw [wrap64 (by omega) (by omega)]; omega) ?_
    exact rGv rfl rfl
   ·obtain ⟨w, hw⟩ : ∃ w, w = z := ⟨_, rfl⟩
    have b5 : bitsLen z = bitsLen w + 0 := by rw [hw]; rfl
    have b6 : w < 256 := by omega
    rw [← hw]
    have b7 : bitsLen w ≤ 8 := (bitsLen_le_iff w 8).2 b6
    refine nEq (x := (w : Int)) (by
     show (w : Int) % 256 = _
     omega) ?_
    refine byte_intro w (UInt8.ofNat (bitsLen w)) rfl ?_ ?_
    ·clear b5 b7
     try clear hw
     revert w
     decide +kernel
    refine nEq (x := (bitsLen w : Int)) (by
     rw [UInt8.toNat_ofNat', Nat.mod_eq_of_lt (by omega), wrap64 (by omega) (by omega)]) ?_
    refine nEq (x := (L : Int)) (by rw [wrap64 (by omega) (by omega)]; omega) ?_
    exact rGv rfl rfl
theorem Len_spec {x : Nat} (hx : x < 18446744073709551616) : Gives Try.prog 120 [.int .u64 x] μ (.int .i64 (bitsLen x)) := by
 refine Spec.mk Try.func120 (by kernel_rfl) ?_
 refine cGv (Len64_spec hx) ?_
 exact rGv rfl rfl
theorem and_le {x m : Int} (h0 : 0 ≤ m) (h1 : m < 18446744073709551616) : 0 ≤ bits .and .u64 x m ∧ bits .and .u64 x m ≤ m := by
 have e : bits .and .u64 x m = (((BitVec.ofInt 64 x &&& BitVec.ofInt 64 m).toNat : Nat) : Int) % 18446744073709551616 := rfl
 have h2 : (BitVec.ofInt 64 m).toNat = m.toNat := by
  rw [BitVec.toNat_ofInt]
  congr 1
  exact Int.emod_eq_of_lt h0 h1
 have h3 : (BitVec.ofInt 64 x &&& BitVec.ofInt 64 m).toNat ≤ m.toNat := by
  rw [BitVec.toNat_and, h2]
  exact Nat.and_le_right
 rw [e]
 omega
end
end Go.Vx
namespace Go.Vx
open Go.Proofs Classical
open Go.Sort
section
variable {μ h0 : Mem} {r rs : Nat} {ty : TypeId} {rest : List Value} {d : Array Int} {s : Int}
theorem nextPowerOfTwo_spec {x : Nat} (hx : x ≤ 1000000000000) : Gives Try.prog 185 [.int .i64 x] μ (.int .u64 ((2 ^ bitsLen x : Nat) : Int)) := by
 refine Spec.mk Try.func185 (by kernel_rfl) ?_
 have h1 : bitsLen x ≤ 40 := (bitsLen_le_iff x 40).2 (by omega)
 have h2 : 2 ^ bitsLen x ≤ 2 ^ 40 := Nat.pow_le_pow_right (by decide) h1
 have h3 : (2 : Nat) ^ 40 = 1099511627776 := by decide
 refine nEq (x := (x : Int)) (by
  show (x : Int) % 18446744073709551616 = _
  omega) ?_
 refine cGv (Len_spec (by omega)) ?_
 refine need_intro (by omega) ?_
 refine nEq (x := ((2 ^ bitsLen x : Nat) : Int)) (by
  have e : min ((bitsLen x : Int).toNat) IntKind.u64.bits = bitsLen x := by
   show min ((bitsLen x : Int).toNat) 64 = bitsLen x
   omega
  rw [e]
  have h4 : ((2 : Int) ^ bitsLen x) = ((2 ^ bitsLen x : Nat) : Int) := by rw [Int.natCast_pow]; rfl
  show (1 * (2 : Int) ^ bitsLen x) % 18446744073709551616 = _
  rw [Int.one_mul, h4]
  generalize 2 ^ bitsLen x = P at *
  omega) ?_
 exact rGv rfl rfl
theorem rdX {K : List Value → Prop} (hne : rs ≠ r) (h : K [.int .u64 s]) : extVC μ (RowX h0 r ty rest d rs s) ⟨rs, 0, none⟩ 1 K := oIn _ rfl (box_at (RowX.at hne)) h
theorem wrX {v : Int} {K : Mem → Prop} (hne : rs ≠ r) (h : K (RowX h0 r ty rest d rs v)) : stoVC (RowX h0 r ty rest d rs s) ⟨rs, 0, none⟩ [.int .u64 v] K := by
 refine sIn [.int .u64 s] 190 (RowX.at hne) rfl (Nat.le_refl _) ?_
 have e : Mem.set (RowX h0 r ty rest d rs s) rs (.cells #[.int .u64 v] 190 (0, 0)) = RowX h0 r ty rest d rs v := by
  rw [RowX, RowI, Mem.set_comm (fun e => hne e.symm), Mem.set_set]
  rfl
 show K (Mem.set (RowX h0 r ty rest d rs s) rs (.cells #[.int .u64 v] 190 (0, 0)))
 rw [e]; exact h
theorem Next_spec (hne : rs ≠ r) : SpecH Try.prog 186 [.pointer (some ⟨rs, 0, none⟩)] μ (RowX h0 r ty rest d rs s) fun v μ' h' => ∃ s', v = .int .u64 s' ∧ μ' = μ ∧ h' = RowX h0 r ty rest d rs s' := by
 refine SpecH.mk [] Try.func186 (by kernel_rfl) ?_
 refine rdX hne ?_
 refine rdX hne ?_
 refine need_intro (by decide) ?_
 refine num_intro fun _ _ => ?_
 refine num_intro fun _ _ => ?_
 refine wrX hne ?_
 refine rdX hne ?_
 refine rdX hne ?_
 refine need_intro (by decide) ?_
 refine num_intro fun _ _ => ?_
 refine num_intro fun _ _ => ?_
 refine wrX hne ?_
 refine rdX hne ?_
 refine rdX hne ?_
 refine need_intro (by decide) ?_
 refine num_intro fun _ _ => ?_
 refine num_intro fun _ _ => ?_
 refine wrX hne ?_
 refine rdX hne ?_
 exact rPl ⟨_, rfl, rfl, rfl⟩
theorem breakPatterns_spec {n a b cap : Nat} (hr : h0 r = none) (hd : d.size = n) (ha : a + 8 ≤ b) (hb : b ≤ n) (hn : n ≤ 1000000000000) :
  SpecH Try.prog 177 [.slice (some ⟨r, 0, none⟩) n cap, .int .i64 a, .int .i64 b] μ (RowI h0 r ty rest d) fun v _μ' h' => v = .tuple #[] ∧ ∃ d', PermIn a b d d' ∧ h' = RowI h0 r ty rest d' := by
 refine SpecH.mk [7] Try.func177 (by kernel_rfl) ?_
 refine nEq (x := ((b - a : Nat) : Int)) (by rw [wrap64 (by omega) (by omega)]; omega) ?_
 refine ifd (fun h8 => ?_) (fun h8 => by omega)
 refine num_intro fun s0 _ => ?_
 intro rs hm ho
 have hne : rs ≠ r := fun e => by
  subst e
  have : RowI h0 rs ty rest d rs = none := ho
  rw [RowI, Mem.set_at] at this; cases this
 have hs0 : h0 rs = none := by
  have : RowI h0 r ty rest d rs = none := ho
  rwa [RowI, Mem.set_ne hne] at this
 have e0 : Mem.set (RowI h0 r ty rest d) rs (.cells #[.int .u64 0] 190 (0, 0)) = RowX h0 r ty rest d rs 0 := by
  rw [RowX, RowI, RowI, Mem.set_comm (fun e => hne e.symm)]
 generalize hH : Mem.set (RowI h0 r ty rest d) rs _ = H
 obtain rfl : H = RowX h0 r ty rest d rs 0 := hH.symm.trans e0
 clear e0 hH ho hm
 refine wrX hne ?_
 refine cGv (nextPowerOfTwo_spec (x := b - a) (by omega)) ?_
 have hP1 : 1 ≤ 2 ^ bitsLen (b - a) := Nat.two_pow_pos _
 have hP2 : 2 ^ bitsLen (b - a) ≤ 2 * (b - a) := two_pow_bitsLen_le (by omega)
 generalize 2 ^ bitsLen (b - a) = P at *
 refine need_intro (by decide) ?_
 refine nEq (x := (((b - a) / 4 : Nat) : Int)) (by rw [Int.tdiv_eq_ediv_of_nonneg (by omega), wrap64 (by omega) (by omega)]; omega) ?_
 refine nEq (x := (((b - a) / 4 * 2 : Nat) : Int)) (by rw [wrap64 (by omega) (by omega)]; omega) ?_
 refine nEq (x := ((a + (b - a) / 4 * 2 : Nat) : Int)) (by rw [wrap64 (by omega) (by omega)]; omega) ?_
 refine nEq (x := ((a + (b - a) / 4 * 2 - 1 : Nat) : Int)) (by rw [wrap64 (by omega) (by omega)]; omega) ?_
 refine lIn (fun p : Nat × Array Int × Int => a + (b - a) / 4 * 2 ≤ p.1 + 1 ∧ p.1 ≤ a + (b - a) / 4 * 2 + 2 ∧ PermIn a b d p.2.1)
  (fun (i, d, s) => ⟨[(0, .val (.slice (some ⟨r, 0, none⟩) n cap)), (1, .val (.int .i64 a)), (6, .val (.int .i64 (b - a : Nat))), (7, .val (.pointer (some ⟨rs, 0, none⟩))), (8, .val (.int .u64 P)), (9, .val (.int .i64 i))], [], 0, μ, RowX h0 r ty rest d rs s⟩) (fun p => a + (b - a) / 4 * 2 + 3 - p.1)
  (a + (b - a) / 4 * 2 - 1, d, s0) ⟨by dsimp only; omega, by dsimp only; omega, permIn_refl _ _ _⟩ (fun (_, _, _) => ⟨rfl, rfl⟩) ⟨⟨rfl, rfl, rfl, rfl, rfl, rfl, trivial⟩, trivial, rfl, rfl⟩ ?_
 rintro ⟨i, d1, s1⟩ ⟨hi1, hi2, hp⟩
 dsimp only at hi1 hi2 hp
 have hs1 : d1.size = n := hp.1.trans hd
 refine need_intro (by decide) ?_
 refine nEq (x := (((b - a) / 4 : Nat) : Int)) (by rw [Int.tdiv_eq_ediv_of_nonneg (by omega), wrap64 (by omega) (by omega)]; omega) ?_
 refine nEq (x := (((b - a) / 4 * 2 : Nat) : Int)) (by rw [wrap64 (by omega) (by omega)]; omega) ?_
 refine nEq (x := ((a + (b - a) / 4 * 2 : Nat) : Int)) (by rw [wrap64 (by omega) (by omega)]; omega) ?_
 refine nEq (x := ((a + (b - a) / 4 * 2 + 1 : Nat) : Int)) (by rw [wrap64 (by omega) (by omega)]; omega) ?_
 refine ifd (fun hle => ?_) (fun hle => ?_)
 rotate_left
 ·exact ret_own _ _ (RowX.parts hne hs0) ⟨rfl, d1, hp, rfl⟩
 refine cOw (Next_spec hne) fun v μ' h' hle' hap hR => ?_
 obtain ⟨s2, rfl, e1, rfl⟩ := hR
 obtain rfl := e1.symm
 refine nEq (x := ((P - 1 : Nat) : Int)) (by
  show ((P : Int) - 1) % 18446744073709551616 = _
  omega) ?_
 refine num_intro fun y hy => ?_
 have w_ := and_le (x := s2) (m := ((P - 1 : Nat) : Int)) (by omega) (by omega)
 obtain ⟨hy1, hy2⟩ := w_
 rw [← hy] at hy1 hy2
 have w_ := Int.eq_ofNat_of_zero_le hy1
 obtain ⟨o, rfl⟩ := w_
 clear hy
 refine nEq (x := (o : Int)) (wrap64 (by omega) (by omega)) ?_
 refine ifd (fun ho => ?_) (fun ho => ?_)
 ·refine nEq (x := ((o - (b - a) : Nat) : Int)) (by rw [wrap64 (by omega) (by omega)]; omega) ?_
  have ho2 : o - (b - a) < b - a := by omega
  generalize o - (b - a) = q at *
  refine nEq (x := ((a + q : Nat) : Int)) (by rw [wrap64 (by omega) (by omega)]; omega) ?_
  refine nEq (x := ((a + q : Nat) : Int)) (by rw [wrap64 (by omega) (by omega)]; omega) ?_
  refine idxI (a + q) (by omega) (by omega) ?_
  refine rdI (by omega) ?_
  refine idxI (i) (by omega) (by omega) ?_
  refine rdI (by omega) ?_
  refine idxI (i) (by omega) (by omega) ?_
  refine wrI (by omega) ?_
  refine idxI (a + q) (by omega) (by omega) ?_
  refine wrI (by simp; omega) ?_
  refine nEq (x := ((i + 1 : Nat) : Int)) (by rw [wrap64 (by omega) (by omega)]; omega) ?_
  exact ⟨(i + 1, swp d1 i (a + q), s2), ⟨by dsimp only; omega, by dsimp only; omega, permIn_trans _ _ _ _ _ hp (swp_permIn d1 a b i (a + q) (by omega) (by omega) (by omega) (by omega) (by omega))⟩, by dsimp only; omega, ⟨⟨rfl, rfl, rfl, rfl, rfl, rfl, trivial⟩, trivial, rfl, rfl⟩⟩
 ·refine nEq (x := ((a + o : Nat) : Int)) (by rw [wrap64 (by omega) (by omega)]; omega) ?_
  refine nEq (x := ((a + o : Nat) : Int)) (by rw [wrap64 (by omega) (by omega)]; omega) ?_
  refine idxI (a + o) (by omega) (by omega) ?_
  refine rdI (by omega) ?_
  refine idxI (i) (by omega) (by omega) ?_
  refine rdI (by omega) ?_
  refine idxI (i) (by omega) (by omega) ?_
  refine wrI (by omega) ?_
  refine idxI (a + o) (by omega) (by omega) ?_
  refine wrI (by simp; omega) ?_
  refine nEq (x := ((i + 1 : Nat) : Int)) (by rw [wrap64 (by omega) (by omega)]; omega) ?_
  exact ⟨(i + 1, swp d1 i (a + o), s2), ⟨by dsimp only; omega, by dsimp only; omega, permIn_trans _ _ _ _ _ hp (swp_permIn d1 a b i (a + o) (by omega) (by omega) (by omega) (by omega) (by omega))⟩, by dsimp only; omega, ⟨⟨rfl, rfl, rfl, rfl, rfl, rfl, trivial⟩, trivial, rfl, rfl⟩⟩
end
end Go.Vx
namespace Go.Vx
open Go.Proofs Classical
open Go.Sort
section
variable {μ h0 : Mem} {r : Nat} {ty : TypeId} {rest : List Value} {d : Array Int}
theorem partitionEqual_spec {n a b pivot : Nat} {cap : Nat} (hd : d.size = n) (hap : a ≤ pivot) (hpb : pivot < b) (hb : b ≤ n) (hn : n ≤ 1000000000000) :
  SpecH Try.prog 182 [.slice (some ⟨r, 0, none⟩) n cap, .int .i64 a, .int .i64 b, .int .i64 pivot] μ (RowI h0 r ty rest d) fun v μ' h' => v = .int .i64 (partitionEqual ltInt d a b pivot).1 ∧ μ' = μ ∧ h' = RowI h0 r ty rest (partitionEqual ltInt d a b pivot).2 := by
 refine SpecH.mk [] Try.func182 (by kernel_rfl) ?_
 rw [partitionEqual]
 generalize hR : partEqLoop ltInt a (a + 1) (b - 1) (swp d a pivot) = R
 refine idxI (pivot) (by omega) (by omega) ?_
 refine rdI (by omega) ?_
 refine idxI (a) (by omega) (by omega) ?_
 refine rdI (by omega) ?_
 refine idxI (a) (by omega) (by omega) ?_
 refine wrI (by omega) ?_
 refine idxI (pivot) (by omega) (by omega) ?_
 refine wrI (by simp; omega) ?_
 refine nEq (x := ((a + 1 : Nat) : Int)) (by rw [wrap64 (by omega) (by omega)]; omega) ?_
 refine nEq (x := ((b - 1 : Nat) : Int)) (by rw [wrap64 (by omega) (by omega)]; omega) ?_
 refine lIn (fun p : Nat × Nat × Array Int => a < p.1 ∧ p.1 ≤ p.2.1 + 2 ∧ p.2.1 < b ∧ p.2.2.size = n ∧ partEqLoop ltInt a p.1 p.2.1 p.2.2 = R)
  (fun (i, j, d) => ⟨[(0, .val (.slice (some ⟨r, 0, none⟩) n cap)), (1, .val (.int .i64 a)), (9, .val (.int .i64 i)), (10, .val (.int .i64 j))], [], 0, μ, RowI h0 r ty rest d⟩) (fun p => p.2.1 + 1 - p.1)
  (a + 1, b - 1, swp d a pivot) ⟨by dsimp only; omega, by dsimp only; omega, by dsimp only; omega, by dsimp only; rw [Go.Sort.swp_size]; exact hd, hR⟩ (fun (_, _, _) => ⟨rfl, rfl⟩) ⟨⟨rfl, rfl, rfl, rfl, trivial⟩, trivial, rfl, rfl⟩ ?_
 clear hR
 rintro ⟨i, j, d1⟩ ⟨hai, hij0, hjb, hs, hR⟩
 dsimp only at hai hij0 hjb hs hR
 rw [partEqLoop_eq] at hR
 generalize hU : scanUp (fun x => !ltInt d1[a]! x) d1 j i = U at *
 refine lIn (fun i' : Nat => i ≤ i' ∧ i' ≤ j + 2 ∧ scanUp (fun x => !ltInt d1[a]! x) d1 j i' = U) (fun i' => ⟨[(0, .val (.slice (some ⟨r, 0, none⟩) n cap)), (1, .val (.int .i64 a)), (9, .val (.int .i64 i')), (10, .val (.int .i64 j))], [], 0, μ, RowI h0 r ty rest d1⟩) (fun i' => j + 1 - i')
  i ⟨by omega, by omega, hU⟩ (fun _ => ⟨rfl, rfl⟩) ⟨⟨rfl, rfl, rfl, rfl, trivial⟩, trivial, rfl, rfl⟩ ?_
 clear hU
 rintro i' ⟨h1, h2, hU⟩
 rw [scanUp] at hU
 refine ifd (fun hij => ?_) (fun hij => ?_)
 refine idxI (a) (by omega) (by omega) ?_
 refine rdI (by omega) ?_
 refine idxI (i') (by omega) (by omega) ?_
 refine rdI (by omega) ?_
 refine cGv (Less_spec _ _) ?_
 refine iIn (fun hl => ?_) (fun hl => ?_)
 ·rw [if_pos (by simp only [Bool.and_eq_true, decide_eq_true_eq]; exact ⟨by omega, hl⟩)] at hU
  refine nEq (x := ((i' + 1 : Nat) : Int)) (by rw [wrap64 (by omega) (by omega)]; omega) ?_
  exact ⟨i' + 1, ⟨by omega, by omega, hU⟩, by omega, ⟨⟨rfl, rfl, rfl, rfl, trivial⟩, trivial, rfl, rfl⟩⟩
 rw [if_neg (by simp only [Bool.and_eq_true, hl]; simp)] at hU
 rotate_left
 rw [if_neg (by simp; omega)] at hU
 obtain rfl := hU
 rotate_left
 obtain rfl := hU
 rotate_left
 all_goals
  generalize hV : scanDown (fun x => ltInt d1[a]! x) d1 i' j = V at *
  refine lIn (fun j' : Nat => j' ≤ j ∧ 0 ≤ j' ∧ scanDown (fun x => ltInt d1[a]! x) d1 i' j' = V) (fun j' => ⟨[(0, .val (.slice (some ⟨r, 0, none⟩) n cap)), (1, .val (.int .i64 a)), (9, .val (.int .i64 i')), (10, .val (.int .i64 j'))], [], 0, μ, RowI h0 r ty rest d1⟩) (fun j' => j')
   j ⟨by omega, by omega, hV⟩ (fun _ => ⟨rfl, rfl⟩) ⟨⟨rfl, rfl, rfl, rfl, trivial⟩, trivial, rfl, rfl⟩ ?_
  clear hV
  rintro j' ⟨g1, g2, hV⟩
  refine ifd (fun hij2 => ?_) (fun hij2 => ?_)
  obtain ⟨k, rfl⟩ : ∃ k, j' = k + 1 := ⟨j' - 1, by omega⟩
  rw [scanDown] at hV
  refine idxI (a) (by omega) (by omega) ?_
  refine rdI (by omega) ?_
  refine idxI (k + 1) (by omega) (by omega) ?_
  refine rdI (by omega) ?_
  refine cGv (Less_spec _ _) ?_
  refine iIn (fun hl => ?_) (fun hl => ?_)
  ·rw [if_pos (by simp only [Bool.and_eq_true, decide_eq_true_eq]; exact ⟨by omega, hl⟩)] at hV
   refine nEq (x := ((k : Nat) : Int)) (by rw [wrap64 (by omega) (by omega)]; omega) ?_
   exact ⟨k, ⟨by omega, by omega, hV⟩, by omega, ⟨⟨rfl, rfl, rfl, rfl, trivial⟩, trivial, rfl, rfl⟩⟩
  rw [if_neg (by simp only [Bool.and_eq_true, hl]; simp)] at hV
  obtain rfl := hV
  generalize k + 1 = j' at *
  rotate_left
  replace hV : j' = V := by
   cases j' with
   | zero => exact hV
   | succ k => rwa [scanDown, if_neg (by simp; omega)] at hV
  obtain rfl := hV
  rotate_left
 all_goals
  refine ifd (fun hgt => ?_) (fun hgt => ?_)
  ·rw [if_pos (by omega)] at hR
   subst hR
   exact rPl ⟨rfl, rfl, rfl⟩
  ·rw [if_neg (by omega)] at hR
   refine idxI (j') (by omega) (by omega) ?_
   refine rdI (by omega) ?_
   refine idxI (i') (by omega) (by omega) ?_
   refine rdI (by omega) ?_
   refine idxI (i') (by omega) (by omega) ?_
   refine wrI (by omega) ?_
   refine idxI (j') (by omega) (by omega) ?_
   refine wrI (by simp; omega) ?_
   refine nEq (x := ((i' + 1 : Nat) : Int)) (by rw [wrap64 (by omega) (by omega)]; omega) ?_
   refine nEq (x := ((j' - 1 : Nat) : Int)) (by rw [wrap64 (by omega) (by omega)]; omega) ?_
   exact ⟨(i' + 1, j' - 1, swp d1 i' j'), ⟨by dsimp only; omega, by dsimp only; omega, by dsimp only; omega, by dsimp only; rw [Go.Sort.swp_size]; exact hs, hR⟩, by dsimp only; omega, ⟨⟨rfl, rfl, rfl, rfl, trivial⟩, trivial, rfl, rfl⟩⟩
set_option maxHeartbeats 4000000 in
theorem partition_spec {n a b pivot : Nat} {cap : Nat} (hd : d.size = n) (hap : a ≤ pivot) (hpb : pivot < b) (hb : b ≤ n) (hn : n ≤ 1000000000000) :
  SpecH Try.prog 183 [.slice (some ⟨r, 0, none⟩) n cap, .int .i64 a, .int .i64 b, .int .i64 pivot] μ (RowI h0 r ty rest d) fun v μ' h' => (∃ ap, v = .tuple #[.int .i64 (partition ltInt d a b pivot).1, .bool ap]) ∧ μ' = μ ∧ h' = RowI h0 r ty rest (partition ltInt d a b pivot).2.2 := by
 refine SpecH.mk [] Try.func183 (by kernel_rfl) ?_
 rw [partition_fst, partition_arr]
 have hsz : ∀ m i j (d : Array Int), j + 1 - i ≤ m → (partLoop ltInt a i j d).2.size = d.size := fun m => by
  induction m with
  | zero =>
   intro i j d h
   rw [partLoop_eq]
   have h1 := scanUp_ge (fun x => ltInt x d[a]!) d j i
   have h2 := scanDown_le (fun x => !ltInt x d[a]!) d (scanUp (fun x => ltInt x d[a]!) d j i) j
   rw [if_pos (by omega)]
  | succ m ih =>
   intro i j d h
   rw [partLoop_eq]
   split
   ·rfl
   ·rename_i hg
    have := partLoop_guard ltInt a i j d hg
    rw [ih _ _ _ (by omega), Go.Sort.swp_size]
 have hRs := hsz _ (a + 1) (b - 1) (swp d a pivot) (Nat.le_refl _)
 rw [Go.Sort.swp_size] at hRs
 generalize hR : partLoop ltInt a (a + 1) (b - 1) (swp d a pivot) = R at *
 refine idxI (pivot) (by omega) (by omega) ?_
 refine rdI (by omega) ?_
 refine idxI (a) (by omega) (by omega) ?_
 refine rdI (by omega) ?_
 refine idxI (a) (by omega) (by omega) ?_
 refine wrI (by omega) ?_
 refine idxI (pivot) (by omega) (by omega) ?_
 refine wrI (by simp; omega) ?_
 refine nEq (x := ((a + 1 : Nat) : Int)) (by rw [wrap64 (by omega) (by omega)]; omega) ?_
 refine nEq (x := ((b - 1 : Nat) : Int)) (by rw [wrap64 (by omega) (by omega)]; omega) ?_
 have hs : (swp d a pivot).size = n := by rw [Go.Sort.swp_size]; exact hd
 have hsw : swp d a pivot = (d.setIfInBounds a d[pivot]!).setIfInBounds pivot d[a]! := rfl
 rw [hsw] at hR hs
 generalize (d.setIfInBounds a d[pivot]!).setIfInBounds pivot d[a]! = d1 at *
 clear hsw hsz
 obtain ⟨i, hi⟩ : ∃ i, i = a + 1 := ⟨_, rfl⟩
 obtain ⟨j, hj⟩ : ∃ j, j = b - 1 := ⟨_, rfl⟩
 have hai : a < i := by omega
 have hij0 : i ≤ j + 2 := by omega
 have hjb : j < b := by omega
 rw [← hi, ← hj] at hR ⊢
 clear hi hj
 rw [partLoop_eq] at hR
 generalize hU : scanUp (fun x => ltInt x d1[a]!) d1 j i = U at *
 refine lIn (fun i' : Nat => i ≤ i' ∧ i' ≤ j + 2 ∧ scanUp (fun x => ltInt x d1[a]!) d1 j i' = U) (fun i' => ⟨[(0, .val (.slice (some ⟨r, 0, none⟩) n cap)), (1, .val (.int .i64 a)), (10, .val (.int .i64 i')), (11, .val (.int .i64 j))], [], 0, μ, RowI h0 r ty rest d1⟩) (fun i' => j + 1 - i')
  i ⟨by omega, by omega, hU⟩ (fun _ => ⟨rfl, rfl⟩) ⟨⟨rfl, rfl, rfl, rfl, trivial⟩, trivial, rfl, rfl⟩ ?_
 clear hU
 rintro i' ⟨h1, h2, hU⟩
 rw [scanUp] at hU
 refine ifd (fun hij => ?_) (fun hij => ?_)
 refine idxI (i') (by omega) (by omega) ?_
 refine rdI (by omega) ?_
 refine idxI (a) (by omega) (by omega) ?_
 refine rdI (by omega) ?_
 refine cGv (Less_spec _ _) ?_
 refine iIn (fun hl => ?_) (fun hl => ?_)
 ·rw [if_pos (by simp only [Bool.and_eq_true, decide_eq_true_eq]; exact ⟨by omega, hl⟩)] at hU
  refine nEq (x := ((i' + 1 : Nat) : Int)) (by rw [wrap64 (by omega) (by omega)]; omega) ?_
  exact ⟨i' + 1, ⟨by omega, by omega, hU⟩, by omega, ⟨⟨rfl, rfl, rfl, rfl, trivial⟩, trivial, rfl, rfl⟩⟩
 rw [if_neg (by simp only [Bool.and_eq_true, hl]; simp)] at hU
 rotate_left
 rw [if_neg (by simp; omega)] at hU
 obtain rfl := hU
 rotate_left
 obtain rfl := hU
 rotate_left
 all_goals
  generalize hV : scanDown (fun x => !ltInt x d1[a]!) d1 i' j = V at *
  refine lIn (fun j' : Nat => j' ≤ j ∧ 0 ≤ j' ∧ scanDown (fun x => !ltInt x d1[a]!) d1 i' j' = V) (fun j' => ⟨[(0, .val (.slice (some ⟨r, 0, none⟩) n cap)), (1, .val (.int .i64 a)), (10, .val (.int .i64 i')), (11, .val (.int .i64 j'))], [], 0, μ, RowI h0 r ty rest d1⟩) (fun j' => j')
   j ⟨by omega, by omega, hV⟩ (fun _ => ⟨rfl, rfl⟩) ⟨⟨rfl, rfl, rfl, rfl, trivial⟩, trivial, rfl, rfl⟩ ?_
  clear hV
  rintro j' ⟨g1, g2, hV⟩
  refine ifd (fun hij2 => ?_) (fun hij2 => ?_)
  obtain ⟨k, rfl⟩ : ∃ k, j' = k + 1 := ⟨j' - 1, by omega⟩
  rw [scanDown] at hV
  refine idxI (k + 1) (by omega) (by omega) ?_
  refine rdI (by omega) ?_
  refine idxI (a) (by omega) (by omega) ?_
  refine rdI (by omega) ?_
  refine cGv (Less_spec _ _) ?_
  refine iIn (fun hl => ?_) (fun hl => ?_)
  ·rw [if_pos (by simp only [Bool.and_eq_true, decide_eq_true_eq]; exact ⟨by omega, hl⟩)] at hV
   refine nEq (x := ((k : Nat) : Int)) (by rw [wrap64 (by omega) (by omega)]; omega) ?_
   exact ⟨k, ⟨by omega, by omega, hV⟩, by omega, ⟨⟨rfl, rfl, rfl, rfl, trivial⟩, trivial, rfl, rfl⟩⟩
  rw [if_neg (by simp only [Bool.and_eq_true, hl]; simp)] at hV
  obtain rfl := hV
  generalize k + 1 = j' at *
  rotate_left
  replace hV : j' = V := by
   cases j' with
   | zero => exact hV
   | succ k => rwa [scanDown, if_neg (by simp; omega)] at hV
  obtain rfl := hV
  rotate_left
 all_goals
  refine ifd (fun hgt => ?_) (fun hgt => ?_)
  ·rw [if_pos (by omega)] at hR
   subst hR
   refine idxI (a) (by omega) (by omega) ?_
   refine rdI (by omega) ?_
   refine idxI (j') (by omega) (by omega) ?_
   refine rdI (by omega) ?_
   refine idxI (j') (by omega) (by omega) ?_
   refine wrI (by omega) ?_
   refine idxI (a) (by omega) (by omega) ?_
   refine wrI (by simp; omega) ?_
   exact rPl ⟨⟨_, rfl⟩, rfl, rfl⟩
  ·rw [if_neg (by omega)] at hR
   refine idxI (j') (by omega) (by omega) ?_
   refine rdI (by omega) ?_
   refine idxI (i') (by omega) (by omega) ?_
   refine rdI (by omega) ?_
   refine idxI (i') (by omega) (by omega) ?_
   refine wrI (by omega) ?_
   refine idxI (j') (by omega) (by omega) ?_
   refine wrI (by simp; omega) ?_
   refine nEq (x := ((i' + 1 : Nat) : Int)) (by rw [wrap64 (by omega) (by omega)]; omega) ?_
   refine nEq (x := ((j' - 1 : Nat) : Int)) (by rw [wrap64 (by omega) (by omega)]; omega) ?_
   refine lIn (fun p : Nat × Nat × Array Int => a < p.1 ∧ p.1 ≤ p.2.1 + 2 ∧ p.2.1 < b ∧ p.2.2.size = n ∧ partLoop ltInt a p.1 p.2.1 p.2.2 = R)
    (fun (i, j, d) => ⟨[(0, .val (.slice (some ⟨r, 0, none⟩) n cap)), (1, .val (.int .i64 a)), (10, .val (.int .i64 i)), (11, .val (.int .i64 j))], [], 0, μ, RowI h0 r ty rest d⟩) (fun p => p.2.1 + 1 - p.1)
    (i' + 1, j' - 1, swp d1 i' j') ⟨by dsimp only; omega, by dsimp only; omega, by dsimp only; omega, by dsimp only; rw [Go.Sort.swp_size]; exact hs, hR⟩ (fun (_, _, _) => ⟨rfl, rfl⟩) ⟨⟨rfl, rfl, rfl, rfl, trivial⟩, trivial, rfl, rfl⟩ ?_
   clear hR hgt hs hai hij0 hjb h1 h2 g1 g2
   rintro ⟨i, j, d1⟩ ⟨hai, hij0, hjb, hs, hR⟩
   dsimp only at hai hij0 hjb hs hR
   rw [partLoop_eq] at hR
   generalize hU : scanUp (fun x => ltInt x d1[a]!) d1 j i = U at *
   refine lIn (fun i' : Nat => i ≤ i' ∧ i' ≤ j + 2 ∧ scanUp (fun x => ltInt x d1[a]!) d1 j i' = U) (fun i' => ⟨[(0, .val (.slice (some ⟨r, 0, none⟩) n cap)), (1, .val (.int .i64 a)), (10, .val (.int .i64 i')), (11, .val (.int .i64 j))], [], 0, μ, RowI h0 r ty rest d1⟩) (fun i' => j + 1 - i')
    i ⟨by omega, by omega, hU⟩ (fun _ => ⟨rfl, rfl⟩) ⟨⟨rfl, rfl, rfl, rfl, trivial⟩, trivial, rfl, rfl⟩ ?_
   clear hU
   rintro i' ⟨h1, h2, hU⟩
   rw [scanUp] at hU
   refine ifd (fun hij => ?_) (fun hij => ?_)
   refine idxI (i') (by omega) (by omega) ?_
   refine rdI (by omega) ?_
   refine idxI (a) (by omega) (by omega) ?_
   refine rdI (by omega) ?_
   refine cGv (Less_spec _ _) ?_
   refine iIn (fun hl => ?_) (fun hl => ?_)
   ·rw [if_pos (by simp only [Bool.and_eq_true, decide_eq_true_eq]; exact ⟨by omega, hl⟩)] at hU
    refine nEq (x := ((i' + 1 : Nat) : Int)) (by rw [wrap64 (by omega) (by omega)]; omega) ?_
    exact ⟨i' + 1, ⟨by omega, by omega, hU⟩, by omega, ⟨⟨rfl, rfl, rfl, rfl, trivial⟩, trivial, rfl, rfl⟩⟩
   rw [if_neg (by simp only [Bool.and_eq_true, hl]; simp)] at hU
   rotate_left
   rw [if_neg (by simp; omega)] at hU
   obtain rfl := hU
   rotate_left
   obtain rfl := hU
   rotate_left
   all_goals
    generalize hV : scanDown (fun x => !ltInt x d1[a]!) d1 i' j = V at *
    refine lIn (fun j' : Nat => j' ≤ j ∧ 0 ≤ j' ∧ scanDown (fun x => !ltInt x d1[a]!) d1 i' j' = V) (fun j' => ⟨[(0, .val (.slice (some ⟨r, 0, none⟩) n cap)), (1, .val (.int .i64 a)), (10, .val (.int .i64 i')), (11, .val (.int .i64 j'))], [], 0, μ, RowI h0 r ty rest d1⟩) (fun j' => j')
     j ⟨by omega, by omega, hV⟩ (fun _ => ⟨rfl, rfl⟩) ⟨⟨rfl, rfl, rfl, rfl, trivial⟩, trivial, rfl, rfl⟩ ?_
    clear hV
    rintro j' ⟨g1, g2, hV⟩
    refine ifd (fun hij2 => ?_) (fun hij2 => ?_)
    obtain ⟨k, rfl⟩ : ∃ k, j' = k + 1 := ⟨j' - 1, by omega⟩
    rw [scanDown] at hV
    refine idxI (k + 1) (by omega) (by omega) ?_
    refine rdI (by omega) ?_
    refine idxI (a) (by omega) (by omega) ?_
    refine rdI (by omega) ?_
    refine cGv (Less_spec _ _) ?_
    refine iIn (fun hl => ?_) (fun hl => ?_)
    ·rw [if_pos (by simp only [Bool.and_eq_true, decide_eq_true_eq]; exact ⟨by omega, hl⟩)] at hV
     refine nEq (x := ((k : Nat) : Int)) (by rw [wrap64 (by omega) (by omega)]; omega) ?_
     exact ⟨k, ⟨by omega, by omega, hV⟩, by omega, ⟨⟨rfl, rfl, rfl, rfl, trivial⟩, trivial, rfl, rfl⟩⟩
    rw [if_neg (by simp only [Bool.and_eq_true, hl]; simp)] at hV
    obtain rfl := hV
    generalize k + 1 = j' at *
    rotate_left
    replace hV : j' = V := by
     cases j' with
     | zero => exact hV
     | succ k => rwa [scanDown, if_neg (by simp; omega)] at hV
    obtain rfl := hV
    rotate_left
   all_goals
    refine ifd (fun hgt => ?_) (fun hgt => ?_)
    ·rw [if_pos (by omega)] at hR
     subst hR
     refine idxI (a) (by omega) (by omega) ?_
     refine rdI (by omega) ?_
     refine idxI (j') (by omega) (by omega) ?_
     refine rdI (by omega) ?_
     refine idxI (j') (by omega) (by omega) ?_
     refine wrI (by omega) ?_
     refine idxI (a) (by omega) (by omega) ?_
     refine wrI (by simp; omega) ?_
     exact rPl ⟨⟨_, rfl⟩, rfl, rfl⟩
    ·rw [if_neg (by omega)] at hR
     refine idxI (j') (by omega) (by omega) ?_
     refine rdI (by omega) ?_
     refine idxI (i') (by omega) (by omega) ?_
     refine rdI (by omega) ?_
     refine idxI (i') (by omega) (by omega) ?_
     refine wrI (by omega) ?_
     refine idxI (j') (by omega) (by omega) ?_
     refine wrI (by simp; omega) ?_
     refine nEq (x := ((i' + 1 : Nat) : Int)) (by rw [wrap64 (by omega) (by omega)]; omega) ?_
     refine nEq (x := ((j' - 1 : Nat) : Int)) (by rw [wrap64 (by omega) (by omega)]; omega) ?_
     exact ⟨(i' + 1, j' - 1, swp d1 i' j'), ⟨by dsimp only; omega, by dsimp only; omega, by dsimp only; omega, by dsimp only; rw [Go.Sort.swp_size]; exact hs, hR⟩, by dsimp only; omega, ⟨⟨rfl, rfl, rfl, rfl, trivial⟩, trivial, rfl, rfl⟩⟩
end
end Go.Vx
namespace Go.Vx
open Go.Proofs Classical
open Go.Sort
section
variable {μ h0 : Mem} {r : Nat} {ty : TypeId} {rest : List Value} {d : Array Int}
set_option maxHeartbeats 8000000 in
theorem partialInsertionSort_spec {n a b : Nat} {cap : Nat} (hd : d.size = n) (ha : a < b) (hb : b ≤ n) (hn : n ≤ 1000000000000) :
  SpecH Try.prog 180 [.slice (some ⟨r, 0, none⟩) n cap, .int .i64 a, .int .i64 b] μ (RowI h0 r ty rest d) fun v μ' h' => v = .bool (partialInsertionSort ltInt d a b).2 ∧ μ' = μ ∧ h' = RowI h0 r ty rest (partialInsertionSort ltInt d a b).1 := by
 refine SpecH.mk [] Try.func180 (by kernel_rfl) ?_
 rw [partialInsertionSort]
 generalize hR : partialIns ltInt a b 5 (a + 1) d = R
 refine nEq (x := ((a + 1 : Nat) : Int)) (by rw [wrap64 (by omega) (by omega)]; omega) ?_
 refine lIn (fun p : Nat × Nat × Array Int => p.1 ≤ 5 ∧ a < p.2.1 ∧ p.2.1 ≤ b ∧ p.2.2.size = n ∧ partialIns ltInt a b p.1 p.2.1 p.2.2 = R)
  (fun (t, i, d) => ⟨[(0, .val (.slice (some ⟨r, 0, none⟩) n cap)), (1, .val (.int .i64 a)), (2, .val (.int .i64 b)), (7, .val (.int .i64 i)), (8, .val (.int .i64 (5 - (t : Int))))], [], 0, μ, RowI h0 r ty rest d⟩) (fun p => p.1)
  (5, a + 1, d) ⟨by dsimp only; omega, by dsimp only; omega, by dsimp only; omega, hd, hR⟩ (fun (_, _, _) => ⟨rfl, rfl⟩) ⟨⟨rfl, rfl, rfl, rfl, rfl, trivial⟩, trivial, rfl, rfl⟩ ?_
 clear hR
 rintro ⟨t, i, d1⟩ ⟨ht, hai, hib, hs, hR⟩
 dsimp only at ht hai hib hs hR
 refine ifd (fun h5 => ?_) (fun h5 => ?_)
 rotate_left
 ·obtain rfl : t = 0 := by omega
  rw [partialIns] at hR
  subst hR
  exact rPl ⟨rfl, rfl, rfl⟩
 obtain ⟨t, rfl⟩ : ∃ k, t = k + 1 := ⟨t - 1, by omega⟩
 rw [partialIns_succ] at hR
 generalize hS : scanSorted ltInt d1 b i = S at *
 refine lIn (fun i' : Nat => i ≤ i' ∧ i' ≤ b ∧ scanSorted ltInt d1 b i' = S) (fun i' => ⟨[(0, .val (.slice (some ⟨r, 0, none⟩) n cap)), (1, .val (.int .i64 a)), (2, .val (.int .i64 b)), (7, .val (.int .i64 i')), (8, .val (.int .i64 (5 - ((t + 1 : Nat) : Int))))], [], 0, μ, RowI h0 r ty rest d1⟩) (fun i' => b - i')
  i ⟨by omega, by omega, hS⟩ (fun _ => ⟨rfl, rfl⟩) ⟨⟨rfl, rfl, rfl, rfl, rfl, trivial⟩, trivial, rfl, rfl⟩ ?_
 clear hS
 rintro i' ⟨h1, h2, hS⟩
 rw [scanSorted] at hS
 refine ifd (fun hlt => ?_) (fun hlt => ?_)
 rotate_left
 ·rw [if_neg (by simp; omega)] at hS
  obtain rfl := hS
  rw [if_pos (by omega)] at hR
  subst hR
  refine ifd (fun _ => ?_) (fun h => absurd (by omega) h)
  exact rPl ⟨rfl, rfl, rfl⟩
 refine idxI (i') (by omega) (by omega) ?_
 refine rdI (by omega) ?_
 refine nEq (x := ((i' - 1 : Nat) : Int)) (by rw [wrap64 (by omega) (by omega)]; omega) ?_
 refine idxI (i' - 1) (by omega) (by omega) ?_
 refine rdI (by omega) ?_
 refine cGv (Less_spec _ _) ?_
 refine iIn (fun hl => ?_) (fun hl => ?_)
 ·rw [if_pos (by simp only [Bool.and_eq_true, decide_eq_true_eq]; exact ⟨by omega, hl⟩)] at hS
  refine nEq (x := ((i' + 1 : Nat) : Int)) (by rw [wrap64 (by omega) (by omega)]; omega) ?_
  exact ⟨i' + 1, ⟨by omega, by omega, hS⟩, by omega, ⟨⟨rfl, rfl, rfl, rfl, rfl, trivial⟩, trivial, rfl, rfl⟩⟩
 rw [if_neg (by simp only [Bool.and_eq_true, hl]; simp)] at hS
 obtain rfl := hS
 refine ifd (fun h => absurd h (by omega)) (fun _ => ?_)
 rw [if_neg (by omega)] at hR
 refine nEq (x := ((b - a : Nat) : Int)) (by rw [wrap64 (by omega) (by omega)]; omega) ?_
 refine ifd (fun h50 => ?_) (fun h50 => ?_)
 ·rw [if_pos (by omega)] at hR
  subst hR
  exact rPl ⟨rfl, rfl, rfl⟩
 rw [if_neg (by omega)] at hR
 refine nEq (x := ((i' - 1 : Nat) : Int)) (by rw [wrap64 (by omega) (by omega)]; omega) ?_
 refine nEq (x := ((i' - 1 : Nat) : Int)) (by rw [wrap64 (by omega) (by omega)]; omega) ?_
 refine idxI (i' - 1) (by omega) (by omega) ?_
 refine rdI (by omega) ?_
 refine idxI (i') (by omega) (by omega) ?_
 refine rdI (by omega) ?_
 refine idxI (i') (by omega) (by omega) ?_
 refine wrI (by omega) ?_
 refine idxI (i' - 1) (by omega) (by omega) ?_
 refine wrI (by simp; omega) ?_
 have hsw : swp d1 i' (i' - 1) = (d1.setIfInBounds i' d1[i' - 1]!).setIfInBounds (i' - 1) d1[i']! := rfl
 have hs2 : (swp d1 i' (i' - 1)).size = n := by rw [Go.Sort.swp_size]; exact hs
 rw [hsw] at hR hs2
 generalize (d1.setIfInBounds i' d1[i' - 1]!).setIfInBounds (i' - 1) d1[i']! = d2 at *
 clear hsw
 refine nEq (x := ((i' - a : Nat) : Int)) (by rw [wrap64 (by omega) (by omega)]; omega) ?_
 unfold fixDown at hR
 refine ifd (fun hd2 => ?_) (fun hd2 => ?_)
 ·rw [if_pos (by omega)] at hR
  refine nEq (x := ((i' - 1 : Nat) : Int)) (by rw [wrap64 (by omega) (by omega)]; omega) ?_
  generalize hD : shiftDown ltInt (i' - 1) d2 = D2 at *
  refine lIn (fun p : Nat × Array Int => p.1 ≤ i' - 1 ∧ p.2.size = n ∧ shiftDown ltInt p.1 p.2 = D2) (fun (j, d) => ⟨[(0, .val (.slice (some ⟨r, 0, none⟩) n cap)), (1, .val (.int .i64 a)), (2, .val (.int .i64 b)), (7, .val (.int .i64 i')), (8, .val (.int .i64 (5 - ((t + 1 : Nat) : Int)))), (9, .val (.int .i64 j))], [], 0, μ, RowI h0 r ty rest d⟩) (fun p => p.1)
   (i' - 1, d2) ⟨by dsimp only; omega, hs2, hD⟩ (fun (_, _) => ⟨rfl, rfl⟩) ⟨⟨rfl, rfl, rfl, rfl, rfl, rfl, trivial⟩, trivial, rfl, rfl⟩ ?_
  clear hD
  rintro ⟨j, d3⟩ ⟨hj, hs3, hD⟩
  dsimp only at hj hs3 hD
  refine ifd (fun hj1 => ?_) (fun hj1 => ?_)
  ·obtain ⟨k, rfl⟩ : ∃ k, j = k + 1 := ⟨j - 1, by omega⟩
   rw [shiftDown] at hD
   refine idxI (k + 1) (by omega) (by omega) ?_
   refine rdI (by omega) ?_
   refine nEq (x := ((k : Nat) : Int)) (by rw [wrap64 (by omega) (by omega)]; omega) ?_
   refine idxI (k) (by omega) (by omega) ?_
   refine rdI (by omega) ?_
   refine cGv (Less_spec _ _) ?_
   refine iIn (fun hl2 => ?_) (fun hl2 => ?_)
   ·rw [if_pos hl2] at hD
    obtain rfl := hD
    refine nEq (x := ((b - i' : Nat) : Int)) (by rw [wrap64 (by omega) (by omega)]; omega) ?_
    unfold fixUp at hR
    refine ifd (fun hu2 => ?_) (fun hu2 => ?_)
    ·rw [if_pos (by omega)] at hR
     refine nEq (x := ((i' + 1 : Nat) : Int)) (by rw [wrap64 (by omega) (by omega)]; omega) ?_
     generalize hE : shiftUp ltInt b (i' + 1) d3 = D4 at *
     refine lIn (fun p : Nat × Array Int => i' + 1 ≤ p.1 ∧ p.1 ≤ b + 1 ∧ p.2.size = n ∧ shiftUp ltInt b p.1 p.2 = D4) (fun (j, d) => ⟨[(0, .val (.slice (some ⟨r, 0, none⟩) n cap)), (1, .val (.int .i64 a)), (2, .val (.int .i64 b)), (7, .val (.int .i64 i')), (8, .val (.int .i64 (5 - ((t + 1 : Nat) : Int)))), (10, .val (.int .i64 j))], [], 0, μ, RowI h0 r ty rest d⟩) (fun p => b - p.1)
      (i' + 1, d3) ⟨by dsimp only; omega, by dsimp only; omega, hs3, hE⟩ (fun (_, _) => ⟨rfl, rfl⟩) ⟨⟨rfl, rfl, rfl, rfl, rfl, rfl, trivial⟩, trivial, rfl, rfl⟩ ?_
     clear hE
     rintro ⟨j2, d5⟩ ⟨hj2, hjb2, hs5, hE⟩
     dsimp only at hj2 hjb2 hs5 hE
     rw [shiftUp] at hE
     refine ifd (fun hj1 => ?_) (fun hj1 => ?_)
     ·rw [if_pos (by omega)] at hE
      refine idxI (j2) (by omega) (by omega) ?_
      refine rdI (by omega) ?_
      refine nEq (x := ((j2 - 1 : Nat) : Int)) (by rw [wrap64 (by omega) (by omega)]; omega) ?_
      refine idxI (j2 - 1) (by omega) (by omega) ?_
      refine rdI (by omega) ?_
      refine cGv (Less_spec _ _) ?_
      refine iIn (fun hl3 => ?_) (fun hl3 => ?_)
      ·rw [if_pos hl3] at hE
       obtain rfl := hE
       refine nEq (x := 5 - (t : Int)) (by rw [wrap64 (by omega) (by omega)]; omega) ?_
       exact ⟨(t, i', d5), ⟨by dsimp only; omega, by dsimp only; omega, by dsimp only; omega, hs5, hR⟩, by dsimp only; omega, ⟨⟨rfl, rfl, rfl, rfl, rfl, trivial⟩, trivial, rfl, rfl⟩⟩
      ·rw [if_neg (by simp only [hl3]; simp)] at hE
       refine nEq (x := ((j2 - 1 : Nat) : Int)) (by rw [wrap64 (by omega) (by omega)]; omega) ?_
       refine nEq (x := ((j2 - 1 : Nat) : Int)) (by rw [wrap64 (by omega) (by omega)]; omega) ?_
       refine idxI (j2 - 1) (by omega) (by omega) ?_
       refine rdI (by omega) ?_
       refine idxI (j2) (by omega) (by omega) ?_
       refine rdI (by omega) ?_
       refine idxI (j2) (by omega) (by omega) ?_
       refine wrI (by omega) ?_
       refine idxI (j2 - 1) (by omega) (by omega) ?_
       refine wrI (by simp; omega) ?_
       refine nEq (x := ((j2 + 1 : Nat) : Int)) (by rw [wrap64 (by omega) (by omega)]; omega) ?_
       exact ⟨(j2 + 1, swp d5 j2 (j2 - 1)), ⟨by dsimp only; omega, by dsimp only; omega, by dsimp only; rw [Go.Sort.swp_size]; exact hs5, hE⟩, by dsimp only; omega, ⟨⟨rfl, rfl, rfl, rfl, rfl, rfl, trivial⟩, trivial, rfl, rfl⟩⟩
     ·rw [if_neg (by omega)] at hE
      obtain rfl := hE
      refine nEq (x := 5 - (t : Int)) (by rw [wrap64 (by omega) (by omega)]; omega) ?_
      exact ⟨(t, i', d5), ⟨by dsimp only; omega, by dsimp only; omega, by dsimp only; omega, hs5, hR⟩, by dsimp only; omega, ⟨⟨rfl, rfl, rfl, rfl, rfl, trivial⟩, trivial, rfl, rfl⟩⟩
    ·rw [if_neg (by omega)] at hR
     refine nEq (x := 5 - (t : Int)) (by rw [wrap64 (by omega) (by omega)]; omega) ?_
     exact ⟨(t, i', d3), ⟨by dsimp only; omega, by dsimp only; omega, by dsimp only; omega, hs3, hR⟩, by dsimp only; omega, ⟨⟨rfl, rfl, rfl, rfl, rfl, trivial⟩, trivial, rfl, rfl⟩⟩
   ·rw [if_neg (by simp only [hl2]; simp)] at hD
    refine nEq (x := ((k : Nat) : Int)) (by rw [wrap64 (by omega) (by omega)]; omega) ?_
    refine nEq (x := ((k : Nat) : Int)) (by rw [wrap64 (by omega) (by omega)]; omega) ?_
    refine idxI (k) (by omega) (by omega) ?_
    refine rdI (by omega) ?_
    refine idxI (k + 1) (by omega) (by omega) ?_
    refine rdI (by omega) ?_
    refine idxI (k + 1) (by omega) (by omega) ?_
    refine wrI (by omega) ?_
    refine idxI (k) (by omega) (by omega) ?_
    refine wrI (by simp; omega) ?_
    refine nEq (x := ((k : Nat) : Int)) (by rw [wrap64 (by omega) (by omega)]; omega) ?_
    exact ⟨(k, swp d3 (k + 1) k), ⟨by dsimp only; omega, by dsimp only; rw [Go.Sort.swp_size]; exact hs3, hD⟩, by dsimp only; omega, ⟨⟨rfl, rfl, rfl, rfl, rfl, rfl, trivial⟩, trivial, rfl, rfl⟩⟩
  ·obtain rfl : j = 0 := by omega
   have hD : d3 = D2 := hD
   obtain rfl := hD
   refine nEq (x := ((b - i' : Nat) : Int)) (by rw [wrap64 (by omega) (by omega)]; omega) ?_
   unfold fixUp at hR
   refine ifd (fun hu2 => ?_) (fun hu2 => ?_)
   ·rw [if_pos (by omega)] at hR
    refine nEq (x := ((i' + 1 : Nat) : Int)) (by rw [wrap64 (by omega) (by omega)]; omega) ?_
    generalize hE : shiftUp ltInt b (i' + 1) d3 = D4 at *
    refine lIn (fun p : Nat × Array Int => i' + 1 ≤ p.1 ∧ p.1 ≤ b + 1 ∧ p.2.size = n ∧ shiftUp ltInt b p.1 p.2 = D4) (fun (j, d) => ⟨[(0, .val (.slice (some ⟨r, 0, none⟩) n cap)), (1, .val (.int .i64 a)), (2, .val (.int .i64 b)), (7, .val (.int .i64 i')), (8, .val (.int .i64 (5 - ((t + 1 : Nat) : Int)))), (10, .val (.int .i64 j))], [], 0, μ, RowI h0 r ty rest d⟩) (fun p => b - p.1)
     (i' + 1, d3) ⟨by dsimp only; omega, by dsimp only; omega, hs3, hE⟩ (fun (_, _) => ⟨rfl, rfl⟩) ⟨⟨rfl, rfl, rfl, rfl, rfl, rfl, trivial⟩, trivial, rfl, rfl⟩ ?_
    clear hE
    rintro ⟨j2, d5⟩ ⟨hj2, hjb2, hs5, hE⟩
    dsimp only at hj2 hjb2 hs5 hE
    rw [shiftUp] at hE
    refine ifd (fun hj1 => ?_) (fun hj1 => ?_)
    ·rw [if_pos (by omega)] at hE
     refine idxI (j2) (by omega) (by omega) ?_
     refine rdI (by omega) ?_
     refine nEq (x := ((j2 - 1 : Nat) : Int)) (by rw [wrap64 (by omega) (by omega)]; omega) ?_
     refine idxI (j2 - 1) (by omega) (by omega) ?_
     refine rdI (by omega) ?_
     refine cGv (Less_spec _ _) ?_
     refine iIn (fun hl3 => ?_) (fun hl3 => ?_)
     ·rw [if_pos hl3] at hE
      obtain rfl := hE
      refine nEq (x := 5 - (t : Int)) (by rw [wrap64 (by omega) (by omega)]; omega) ?_
      exact ⟨(t, i', d5), ⟨by dsimp only; omega, by dsimp only; omega, by dsimp only; omega, hs5, hR⟩, by dsimp only; omega, ⟨⟨rfl, rfl, rfl, rfl, rfl, trivial⟩, trivial, rfl, rfl⟩⟩
     ·rw [if_neg (by simp only [hl3]; simp)] at hE
      refine nEq (x := ((j2 - 1 : Nat) : Int)) (by rw [wrap64 (by omega) (by omega)]; omega) ?_
      refine nEq (x := ((j2 - 1 : Nat) : Int)) (by rw [wrap64 (by omega) (by omega)]; omega) ?_
      refine idxI (j2 - 1) (by omega) (by omega) ?_
      refine rdI (by omega) ?_
      refine idxI (j2) (by omega) (by omega) ?_
      refine rdI (by omega) ?_
      refine idxI (j2) (by omega) (by omega) ?_
      refine wrI (by omega) ?_
      refine idxI (j2 - 1) (by omega) (by omega) ?_
      refine wrI (by simp; omega) ?_
      refine nEq (x := ((j2 + 1 : Nat) : Int)) (by rw [wrap64 (by omega) (by omega)]; omega) ?_
      exact ⟨(j2 + 1, swp d5 j2 (j2 - 1)), ⟨by dsimp only; omega, by dsimp only; omega, by dsimp only; rw [Go.Sort.swp_size]; exact hs5, hE⟩, by dsimp only; omega, ⟨⟨rfl, rfl, rfl, rfl, rfl, rfl, trivial⟩, trivial, rfl, rfl⟩⟩
    ·rw [if_neg (by omega)] at hE
     obtain rfl := hE
     refine nEq (x := 5 - (t : Int)) (by rw [wrap64 (by omega) (by omega)]; omega) ?_
     exact ⟨(t, i', d5), ⟨by dsimp only; omega, by dsimp only; omega, by dsimp only; omega, hs5, hR⟩, by dsimp only; omega, ⟨⟨rfl, rfl, rfl, rfl, rfl, trivial⟩, trivial, rfl, rfl⟩⟩
   ·rw [if_neg (by omega)] at hR
    refine nEq (x := 5 - (t : Int)) (by rw [wrap64 (by omega) (by omega)]; omega) ?_
    exact ⟨(t, i', d3), ⟨by dsimp only; omega, by dsimp only; omega, by dsimp only; omega, hs3, hR⟩, by dsimp only; omega, ⟨⟨rfl, rfl, rfl, rfl, rfl, trivial⟩, trivial, rfl, rfl⟩⟩
 ·rw [if_neg (by omega)] at hR
  refine nEq (x := ((b - i' : Nat) : Int)) (by rw [wrap64 (by omega) (by omega)]; omega) ?_
  unfold fixUp at hR
  refine ifd (fun hu2 => ?_) (fun hu2 => ?_)
  ·rw [if_pos (by omega)] at hR
   refine nEq (x := ((i' + 1 : Nat) : Int)) (by rw [wrap64 (by omega) (by omega)]; omega) ?_
   generalize hE : shiftUp ltInt b (i' + 1) d2 = D4 at *
   refine lIn (fun p : Nat × Array Int => i' + 1 ≤ p.1 ∧ p.1 ≤ b + 1 ∧ p.2.size = n ∧ shiftUp ltInt b p.1 p.2 = D4) (fun (j, d) => ⟨[(0, .val (.slice (some ⟨r, 0, none⟩) n cap)), (1, .val (.int .i64 a)), (2, .val (.int .i64 b)), (7, .val (.int .i64 i')), (8, .val (.int .i64 (5 - ((t + 1 : Nat) : Int)))), (10, .val (.int .i64 j))], [], 0, μ, RowI h0 r ty rest d⟩) (fun p => b - p.1)
    (i' + 1, d2) ⟨by dsimp only; omega, by dsimp only; omega, hs2, hE⟩ (fun (_, _) => ⟨rfl, rfl⟩) ⟨⟨rfl, rfl, rfl, rfl, rfl, rfl, trivial⟩, trivial, rfl, rfl⟩ ?_
   clear hE
   rintro ⟨j2, d5⟩ ⟨hj2, hjb2, hs5, hE⟩
   dsimp only at hj2 hjb2 hs5 hE
   rw [shiftUp] at hE
   refine ifd (fun hj1 => ?_) (fun hj1 => ?_)
   ·rw [if_pos (by omega)] at hE
    refine idxI (j2) (by omega) (by omega) ?_
    refine rdI (by omega) ?_
    refine nEq (x := ((j2 - 1 : Nat) : Int)) (by rw [wrap64 (by omega) (by omega)]; omega) ?_
    refine idxI (j2 - 1) (by omega) (by omega) ?_
    refine rdI (by omega) ?_
    refine cGv (Less_spec _ _) ?_
    refine iIn (fun hl3 => ?_) (fun hl3 => ?_)
    ·rw [if_pos hl3] at hE
     obtain rfl := hE
     refine nEq (x := 5 - (t : Int)) (by rw [wrap64 (by omega) (by omega)]; omega) ?_
     exact ⟨(t, i', d5), ⟨by dsimp only; omega, by dsimp only; omega, by dsimp only; omega, hs5, hR⟩, by dsimp only; omega, ⟨⟨rfl, rfl, rfl, rfl, rfl, trivial⟩, trivial, rfl, rfl⟩⟩
    ·rw [if_neg (by simp only [hl3]; simp)] at hE
     refine nEq (x := ((j2 - 1 : Nat) : Int)) (by rw [wrap64 (by omega) (by omega)]; omega) ?_
     refine nEq (x := ((j2 - 1 : Nat) : Int)) (by rw [wrap64 (by omega) (by omega)]; omega) ?_
     refine idxI (j2 - 1) (by omega) (by omega) ?_
     refine rdI (by omega) ?_
     refine idxI (j2) (by omega) (by omega) ?_
     refine rdI (by omega) ?_
     refine idxI (j2) (by omega) (by omega) ?_
     refine wrI (by omega) ?_
     refine idxI (j2 - 1) (by omega) (by omega) ?_
     refine wrI (by simp; omega) ?_
     refine nEq (x := ((j2 + 1 : Nat) : Int)) (by rw [wrap64 (by omega) (by omega)]; omega) ?_
     exact ⟨(j2 + 1, swp d5 j2 (j2 - 1)), ⟨by dsimp only; omega, by dsimp only; omega, by dsimp only; rw [Go.Sort.swp_size]; exact hs5, hE⟩, by dsimp only; omega, ⟨⟨rfl, rfl, rfl, rfl, rfl, rfl, trivial⟩, trivial, rfl, rfl⟩⟩
   ·rw [if_neg (by omega)] at hE
    obtain rfl := hE
    refine nEq (x := 5 - (t : Int)) (by rw [wrap64 (by omega) (by omega)]; omega) ?_
    exact ⟨(t, i', d5), ⟨by dsimp only; omega, by dsimp only; omega, by dsimp only; omega, hs5, hR⟩, by dsimp only; omega, ⟨⟨rfl, rfl, rfl, rfl, rfl, trivial⟩, trivial, rfl, rfl⟩⟩
  ·rw [if_neg (by omega)] at hR
   refine nEq (x := 5 - (t : Int)) (by rw [wrap64 (by omega) (by omega)]; omega) ?_
   exact ⟨(t, i', d2), ⟨by dsimp only; omega, by dsimp only; omega, by dsimp only; omega, hs2, hR⟩, by dsimp only; omega, ⟨⟨rfl, rfl, rfl, rfl, rfl, trivial⟩, trivial, rfl, rfl⟩⟩
end
end Go.Vx
namespace Go.Vx
open Go.Proofs Classical
open Go.Sort
section
variable {h0 : Mem} {r : Nat} {ty : TypeId} {rest : List Value}
set_option maxHeartbeats 16000000 in
theorem pdqsort_spec {n cap : Nat} (hr : h0 r = none) (hn : n ≤ 1000000000000) : ∀ (m : Nat) (a b limit : Nat) (d : Array Int) (μ : Mem), b - a < m → a ≤ b → b ≤ n → d.size = n → limit ≤ 64 → Below ltInt a b d →
  SpecH Try.prog 172 [.slice (some ⟨r, 0, none⟩) n cap, .int .i64 a, .int .i64 b, .int .i64 limit] μ (RowI h0 r ty rest d) fun v _μ' h' => v = .tuple #[] ∧ ∃ d', PermIn a b d d' ∧ SortedIn ltInt a b d' ∧ h' = RowI h0 r ty rest d' := by
 intro m
 induction m with
 | zero => intro a b limit d μ h; omega
 | succ m ih =>
 intro a0 b0 limit0 d0 μ hm hab0 hb0 hd0 hl0 hB0
 refine SpecH.mk [] Try.func172 (by kernel_rfl) ?_
 refine lIn (fun p : Nat × Nat × Nat × Bool × Bool × Array Int × Mem => p.1 ≤ p.2.1 ∧ p.2.1 ≤ n ∧ p.2.1 - p.1 ≤ b0 - a0 ∧ p.2.2.1 ≤ 64 ∧ p.2.2.2.2.2.1.size = n ∧ Below ltInt p.1 p.2.1 p.2.2.2.2.2.1 ∧ μ.Le p.2.2.2.2.2.2 ∧ ∀ R, PermIn p.1 p.2.1 p.2.2.2.2.2.1 R → SortedIn ltInt p.1 p.2.1 R → PermIn a0 b0 d0 R ∧ SortedIn ltInt a0 b0 R)
  (fun (a, b, limit, wb, wp, d, μ') => ⟨[(0, .val (.slice (some ⟨r, 0, none⟩) n cap)), (1, .val (.int .i64 a)), (2, .val (.int .i64 b)), (3, .val (.int .i64 limit)), (8, .val (.bool wb)), (9, .val (.bool wp))], [], 0, μ', RowI h0 r ty rest d⟩) (fun p => p.2.1 - p.1)
  (a0, b0, limit0, true, true, d0, μ) ⟨hab0, hb0, Nat.le_refl _, hl0, hd0, hB0, Mem.Le.refl _, fun R h1 h2 => ⟨h1, h2⟩⟩ (fun (_, _, _, _, _, _, _) => ⟨rfl, rfl⟩) ⟨⟨rfl, rfl, rfl, rfl, rfl, rfl, trivial⟩, trivial, rfl, rfl⟩ ?_
 rintro ⟨a, b, limit, wb, wp, d, μ1⟩ ⟨hab, hb, hlen, hlim, hs, hB, hle, hfin⟩
 dsimp only at hab hb hlen hlim hs hB hle hfin
 refine nEq (x := ((b - a : Nat) : Int)) (by rw [wrap64 (by omega) (by omega)]; omega) ?_
 refine ifd (fun h12 => ?_) (fun h12 => ?_)
 ·refine cOw (insertionSort_spec hs hab hb hn) fun v μ' h' hle' hap hR => ?_
  obtain ⟨rfl, e1, rfl⟩ := hR
  have q := insertionSort_holds (lt := ltInt) swo_ltInt d a b hab (by omega)
  exact rPl ⟨rfl, _, (hfin _ q.1 q.2).1, (hfin _ q.1 q.2).2, rfl⟩
 refine ifd (fun hl => ?_) (fun hl => ?_)
 ·refine cOw (heapSort_spec hs (by omega) hb hn) fun v μ' h' hle' hap hR => ?_
  obtain ⟨rfl, e1, rfl⟩ := hR
  have q := heapSort_holds (lt := ltInt) swo_ltInt d a b hab (by omega)
  exact rPl ⟨rfl, _, (hfin _ q.1 q.2).1, (hfin _ q.1 q.2).2, rfl⟩
 cases wb with
 | false =>
  refine iIn (fun _ => ?_) (fun h => nomatch h)
  refine cOw (breakPatterns_spec hr hs (by omega) hb hn) fun v μ2 h' hle' hap hR => ?_
  obtain ⟨rfl, d1, p1, rfl⟩ := hR
  replace hB := hB.perm (by omega) p1
  replace hfin := fun R h1 h2 => hfin R (permIn_trans _ _ _ _ _ p1 h1) h2
  have hs1 : d1.size = n := p1.1.trans hs
  replace hle := hle.trans hle'
  clear hs p1 hle'
  refine nEq (x := ((limit - 1 : Nat) : Int)) (by rw [wrap64 (by omega) (by omega)]; omega) ?_
  refine cOw (choosePivot_spec hr hs1 (by omega) hb hn) fun v μ3 h' hle' hap hR => ?_
  obtain ⟨p, k, hp1, hp2, hk, rfl, rfl⟩ := hR
  replace hle := hle.trans hle'
  clear hle' hap
  refine ifd (fun hk2 => ?_) (fun hk2 => ?_)
  ·refine cOw (reverseRange_spec hs1 (by omega) hab hb hn) fun v μ4 h' hle' hap hR => ?_
   obtain ⟨rfl, e1, rfl⟩ := hR
   obtain rfl := e1.symm
   clear hle' hap
   have p2 := reverseRange_holds d1 a b hab (by omega)
   generalize reverseRange d1 a b = d2 at *
   replace hB := hB.perm (by omega) p2
   replace hfin := fun R h1 h2 => hfin R (permIn_trans _ _ _ _ _ p2 h1) h2
   have hs2 : d2.size = n := p2.1.trans hs1
   clear p2
   refine nEq (x := ((b - 1 : Nat) : Int)) (by rw [wrap64 (by omega) (by omega)]; omega) ?_
   refine nEq (x := ((p - a : Nat) : Int)) (by rw [wrap64 (by omega) (by omega)]; omega) ?_
   refine nEq (x := (((b - 1) - (p - a) : Nat) : Int)) (by rw [wrap64 (by omega) (by omega)]; omega) ?_
   refine iIn (fun h => nomatch h) (fun _ => ?_)
   refine ifd (fun ha0 => ?_) (fun ha0 => ?_)
   ·refine nEq (x := ((a - 1 : Nat) : Int)) (by rw [wrap64 (by omega) (by omega)]; omega) ?_
    refine idxI (a - 1) (by omega) (by omega) ?_
    refine rdI (by omega) ?_
    refine idxI ((b - 1) - (p - a)) (by omega) (by omega) ?_
    refine rdI (by omega) ?_
    refine cGv (Less_spec _ _) ?_
    refine iIn (fun hnl => ?_) (fun hnl => ?_)
    ·refine cOw (partitionEqual_spec (pivot := (b - 1) - (p - a)) hs2 (by omega) (by omega) hb hn) fun v μ6 h' hle' hap hR => ?_
     obtain ⟨rfl, e1, rfl⟩ := hR
     obtain rfl := e1.symm
     obtain ⟨mid, d4, hx⟩ : ∃ mid d4, partitionEqual ltInt d2 a b ((b - 1) - (p - a)) = (mid, d4) := ⟨_, _, rfl⟩
     rw [hx]
     have q := round_eq swo_ltInt (partitionEqual_holds ltInt) (by omega) (by omega) (by omega) (by omega) hB (by simpa using hnl) hx
     have qa := q.1
     exact ⟨(mid, b, limit - 1, false, wp, d4, _), ⟨q.2.1, hb, by dsimp only; omega, by dsimp only; omega, q.2.2.1.trans hs2, q.2.2.2.1, hle, fun R h1 h2 => hfin R (q.2.2.2.2 R h1 h2).1 (q.2.2.2.2 R h1 h2).2⟩, by dsimp only; omega, ⟨⟨rfl, rfl, rfl, rfl, rfl, rfl, trivial⟩, trivial, rfl, rfl⟩⟩
    ·refine cOw (partition_spec (pivot := (b - 1) - (p - a)) hs2 (by omega) (by omega) hb hn) fun v μ6 h' hle' hap hR => ?_
     obtain ⟨⟨ap, rfl⟩, e1, rfl⟩ := hR
     obtain rfl := e1.symm
     obtain ⟨mid, ap', d4, hx⟩ : ∃ mid ap' d4, partition ltInt d2 a b ((b - 1) - (p - a)) = (mid, ap', d4) := ⟨_, _, _, rfl⟩
     rw [hx]
     have w_ := round_part swo_ltInt (partition_holds ltInt) (by omega) (by omega) (by omega) hB hx
     obtain ⟨q1, q2, q3, q4, q5, q6, q7⟩ := w_
     refine nEq (x := ((mid - a : Nat) : Int)) (by rw [wrap64 (by omega) (by omega)]; omega) ?_
     refine nEq (x := ((b - mid : Nat) : Int)) (by rw [wrap64 (by omega) (by omega)]; omega) ?_
     refine need_intro (by decide) ?_
     refine nEq (x := (((b - a) / 8 : Nat) : Int)) (by rw [Int.tdiv_eq_ediv_of_nonneg (by omega), wrap64 (by omega) (by omega)]; omega) ?_
     refine ifd (fun hlt => ?_) (fun hlt => ?_)
     ·refine cOw (ih a mid (limit - 1) d4 _ (by omega) (by omega) (by omega) (q3.trans hs2) (by omega) q4) fun v μ7 h' hle7 hap hR => ?_
      obtain ⟨rfl, L, g1, g2, rfl⟩ := hR
      have w_ := q6 L g1 g2
      obtain ⟨g3, g4⟩ := w_
      refine nEq (x := ((mid + 1 : Nat) : Int)) (by rw [wrap64 (by omega) (by omega)]; omega) ?_
      exact ⟨(mid + 1, b, limit - 1, _, ap, L, μ7), ⟨by dsimp only; omega, hb, by dsimp only; omega, by dsimp only; omega, g1.1.trans (q3.trans hs2), g3, hle.trans hle7, fun R h1 h2 => hfin R (g4 R h1 h2).1 (g4 R h1 h2).2⟩, by dsimp only; omega, ⟨⟨rfl, rfl, rfl, rfl, rfl, rfl, trivial⟩, trivial, rfl, rfl⟩⟩
     ·refine nEq (x := ((mid + 1 : Nat) : Int)) (by rw [wrap64 (by omega) (by omega)]; omega) ?_
      refine cOw (ih (mid + 1) b (limit - 1) d4 _ (by omega) (by omega) (by omega) (q3.trans hs2) (by omega) q5) fun v μ7 h' hle7 hap hR => ?_
      obtain ⟨rfl, L, g1, g2, rfl⟩ := hR
      have w_ := q7 L g1 g2
      obtain ⟨g3, g4⟩ := w_
      exact ⟨(a, mid, limit - 1, _, ap, L, μ7), ⟨by dsimp only; omega, by dsimp only; omega, by dsimp only; omega, by dsimp only; omega, g1.1.trans (q3.trans hs2), g3, hle.trans hle7, fun R h1 h2 => hfin R (g4 R h1 h2).1 (g4 R h1 h2).2⟩, by dsimp only; omega, ⟨⟨rfl, rfl, rfl, rfl, rfl, rfl, trivial⟩, trivial, rfl, rfl⟩⟩
   ·refine cOw (partition_spec (pivot := (b - 1) - (p - a)) hs2 (by omega) (by omega) hb hn) fun v μ6 h' hle' hap hR => ?_
    obtain ⟨⟨ap, rfl⟩, e1, rfl⟩ := hR
    obtain rfl := e1.symm
    obtain ⟨mid, ap', d4, hx⟩ : ∃ mid ap' d4, partition ltInt d2 a b ((b - 1) - (p - a)) = (mid, ap', d4) := ⟨_, _, _, rfl⟩
    rw [hx]
    have w_ := round_part swo_ltInt (partition_holds ltInt) (by omega) (by omega) (by omega) hB hx
    obtain ⟨q1, q2, q3, q4, q5, q6, q7⟩ := w_
    refine nEq (x := ((mid - a : Nat) : Int)) (by rw [wrap64 (by omega) (by omega)]; omega) ?_
    refine nEq (x := ((b - mid : Nat) : Int)) (by rw [wrap64 (by omega) (by omega)]; omega) ?_
    refine need_intro (by decide) ?_
    refine nEq (x := (((b - a) / 8 : Nat) : Int)) (by rw [Int.tdiv_eq_ediv_of_nonneg (by omega), wrap64 (by omega) (by omega)]; omega) ?_
    refine ifd (fun hlt => ?_) (fun hlt => ?_)
    ·refine cOw (ih a mid (limit - 1) d4 _ (by omega) (by omega) (by omega) (q3.trans hs2) (by omega) q4) fun v μ7 h' hle7 hap hR => ?_
     obtain ⟨rfl, L, g1, g2, rfl⟩ := hR
     have w_ := q6 L g1 g2
     obtain ⟨g3, g4⟩ := w_
     refine nEq (x := ((mid + 1 : Nat) : Int)) (by rw [wrap64 (by omega) (by omega)]; omega) ?_
     exact ⟨(mid + 1, b, limit - 1, _, ap, L, μ7), ⟨by dsimp only; omega, hb, by dsimp only; omega, by dsimp only; omega, g1.1.trans (q3.trans hs2), g3, hle.trans hle7, fun R h1 h2 => hfin R (g4 R h1 h2).1 (g4 R h1 h2).2⟩, by dsimp only; omega, ⟨⟨rfl, rfl, rfl, rfl, rfl, rfl, trivial⟩, trivial, rfl, rfl⟩⟩
    ·refine nEq (x := ((mid + 1 : Nat) : Int)) (by rw [wrap64 (by omega) (by omega)]; omega) ?_
     refine cOw (ih (mid + 1) b (limit - 1) d4 _ (by omega) (by omega) (by omega) (q3.trans hs2) (by omega) q5) fun v μ7 h' hle7 hap hR => ?_
     obtain ⟨rfl, L, g1, g2, rfl⟩ := hR
     have w_ := q7 L g1 g2
     obtain ⟨g3, g4⟩ := w_
     exact ⟨(a, mid, limit - 1, _, ap, L, μ7), ⟨by dsimp only; omega, by dsimp only; omega, by dsimp only; omega, by dsimp only; omega, g1.1.trans (q3.trans hs2), g3, hle.trans hle7, fun R h1 h2 => hfin R (g4 R h1 h2).1 (g4 R h1 h2).2⟩, by dsimp only; omega, ⟨⟨rfl, rfl, rfl, rfl, rfl, rfl, trivial⟩, trivial, rfl, rfl⟩⟩
  ·refine iIn (fun h => nomatch h) (fun _ => ?_)
   refine ifd (fun ha0 => ?_) (fun ha0 => ?_)
   ·refine nEq (x := ((a - 1 : Nat) : Int)) (by rw [wrap64 (by omega) (by omega)]; omega) ?_
    refine idxI (a - 1) (by omega) (by omega) ?_
    refine rdI (by omega) ?_
    refine idxI (p) (by omega) (by omega) ?_
    refine rdI (by omega) ?_
    refine cGv (Less_spec _ _) ?_
    refine iIn (fun hnl => ?_) (fun hnl => ?_)
    ·refine cOw (partitionEqual_spec (pivot := p) hs1 (by omega) (by omega) hb hn) fun v μ6 h' hle' hap hR => ?_
     obtain ⟨rfl, e1, rfl⟩ := hR
     obtain rfl := e1.symm
     obtain ⟨mid, d4, hx⟩ : ∃ mid d4, partitionEqual ltInt d1 a b (p) = (mid, d4) := ⟨_, _, rfl⟩
     rw [hx]
     have q := round_eq swo_ltInt (partitionEqual_holds ltInt) (by omega) (by omega) (by omega) (by omega) hB (by simpa using hnl) hx
     have qa := q.1
     exact ⟨(mid, b, limit - 1, false, wp, d4, _), ⟨q.2.1, hb, by dsimp only; omega, by dsimp only; omega, q.2.2.1.trans hs1, q.2.2.2.1, hle, fun R h1 h2 => hfin R (q.2.2.2.2 R h1 h2).1 (q.2.2.2.2 R h1 h2).2⟩, by dsimp only; omega, ⟨⟨rfl, rfl, rfl, rfl, rfl, rfl, trivial⟩, trivial, rfl, rfl⟩⟩
    ·refine cOw (partition_spec (pivot := p) hs1 (by omega) (by omega) hb hn) fun v μ6 h' hle' hap hR => ?_
     obtain ⟨⟨ap, rfl⟩, e1, rfl⟩ := hR
     obtain rfl := e1.symm
     obtain ⟨mid, ap', d4, hx⟩ : ∃ mid ap' d4, partition ltInt d1 a b (p) = (mid, ap', d4) := ⟨_, _, _, rfl⟩
     rw [hx]
     have w_ := round_part swo_ltInt (partition_holds ltInt) (by omega) (by omega) (by omega) hB hx
     obtain ⟨q1, q2, q3, q4, q5, q6, q7⟩ := w_
     refine nEq (x := ((mid - a : Nat) : Int)) (by rw [wrap64 (by omega) (by omega)]; omega) ?_
     refine nEq (x := ((b - mid : Nat) : Int)) (by rw [wrap64 (by omega) (by omega)]; omega) ?_
     refine need_intro (by decide) ?_
     refine nEq (x := (((b - a) / 8 : Nat) : Int)) (by rw [Int.tdiv_eq_ediv_of_nonneg (by omega), wrap64 (by omega) (by omega)]; omega) ?_
     refine ifd (fun hlt => ?_) (fun hlt => ?_)
     ·refine cOw (ih a mid (limit - 1) d4 _ (by omega) (by omega) (by omega) (q3.trans hs1) (by omega) q4) fun v μ7 h' hle7 hap hR => ?_
      obtain ⟨rfl, L, g1, g2, rfl⟩ := hR
      have w_ := q6 L g1 g2
      obtain ⟨g3, g4⟩ := w_
      refine nEq (x := ((mid + 1 : Nat) : Int)) (by rw [wrap64 (by omega) (by omega)]; omega) ?_
      exact ⟨(mid + 1, b, limit - 1, _, ap, L, μ7), ⟨by dsimp only; omega, hb, by dsimp only; omega, by dsimp only; omega, g1.1.trans (q3.trans hs1), g3, hle.trans hle7, fun R h1 h2 => hfin R (g4 R h1 h2).1 (g4 R h1 h2).2⟩, by dsimp only; omega, ⟨⟨rfl, rfl, rfl, rfl, rfl, rfl, trivial⟩, trivial, rfl, rfl⟩⟩
     ·refine nEq (x := ((mid + 1 : Nat) : Int)) (by rw [wrap64 (by omega) (by omega)]; omega) ?_
      refine cOw (ih (mid + 1) b (limit - 1) d4 _ (by omega) (by omega) (by omega) (q3.trans hs1) (by omega) q5) fun v μ7 h' hle7 hap hR => ?_
      obtain ⟨rfl, L, g1, g2, rfl⟩ := hR
      have w_ := q7 L g1 g2
      obtain ⟨g3, g4⟩ := w_
      exact ⟨(a, mid, limit - 1, _, ap, L, μ7), ⟨by dsimp only; omega, by dsimp only; omega, by dsimp only; omega, by dsimp only; omega, g1.1.trans (q3.trans hs1), g3, hle.trans hle7, fun R h1 h2 => hfin R (g4 R h1 h2).1 (g4 R h1 h2).2⟩, by dsimp only; omega, ⟨⟨rfl, rfl, rfl, rfl, rfl, rfl, trivial⟩, trivial, rfl, rfl⟩⟩
   ·refine cOw (partition_spec (pivot := p) hs1 (by omega) (by omega) hb hn) fun v μ6 h' hle' hap hR => ?_
    obtain ⟨⟨ap, rfl⟩, e1, rfl⟩ := hR
    obtain rfl := e1.symm
    obtain ⟨mid, ap', d4, hx⟩ : ∃ mid ap' d4, partition ltInt d1 a b (p) = (mid, ap', d4) := ⟨_, _, _, rfl⟩
    rw [hx]
    have w_ := round_part swo_ltInt (partition_holds ltInt) (by omega) (by omega) (by omega) hB hx
    obtain ⟨q1, q2, q3, q4, q5, q6, q7⟩ := w_
    refine nEq (x := ((mid - a : Nat) : Int)) (by rw [wrap64 (by omega) (by omega)]; omega) ?_
    refine nEq (x := ((b - mid : Nat) : Int)) (by rw [wrap64 (by omega) (by omega)]; omega) ?_
    refine need_intro (by decide) ?_
    refine nEq (x := (((b - a) / 8 : Nat) : Int)) (by rw [Int.tdiv_eq_ediv_of_nonneg (by omega), wrap64 (by omega) (by omega)]; omega) ?_
    refine ifd (fun hlt => ?_) (fun hlt => ?_)
    ·refine cOw (ih a mid (limit - 1) d4 _ (by omega) (by omega) (by omega) (q3.trans hs1) (by omega) q4) fun v μ7 h' hle7 hap hR => ?_
     obtain ⟨rfl, L, g1, g2, rfl⟩ := hR
     have w_ := q6 L g1 g2
     obtain ⟨g3, g4⟩ := w_
     refine nEq (x := ((mid + 1 : Nat) : Int)) (by rw [wrap64 (by omega) (by omega)]; omega) ?_
     exact ⟨(mid + 1, b, limit - 1, _, ap, L, μ7), ⟨by dsimp only; omega, hb, by dsimp only; omega, by dsimp only; omega, g1.1.trans (q3.trans hs1), g3, hle.trans hle7, fun R h1 h2 => hfin R (g4 R h1 h2).1 (g4 R h1 h2).2⟩, by dsimp only; omega, ⟨⟨rfl, rfl, rfl, rfl, rfl, rfl, trivial⟩, trivial, rfl, rfl⟩⟩
    ·refine nEq (x := ((mid + 1 : Nat) : Int)) (by rw [wrap64 (by omega) (by omega)]; omega) ?_
     refine cOw (ih (mid + 1) b (limit - 1) d4 _ (by omega) (by omega) (by omega) (q3.trans hs1) (by omega) q5) fun v μ7 h' hle7 hap hR => ?_
     obtain ⟨rfl, L, g1, g2, rfl⟩ := hR
     have w_ := q7 L g1 g2
     obtain ⟨g3, g4⟩ := w_
     exact ⟨(a, mid, limit - 1, _, ap, L, μ7), ⟨by dsimp only; omega, by dsimp only; omega, by dsimp only; omega, by dsimp only; omega, g1.1.trans (q3.trans hs1), g3, hle.trans hle7, fun R h1 h2 => hfin R (g4 R h1 h2).1 (g4 R h1 h2).2⟩, by dsimp only; omega, ⟨⟨rfl, rfl, rfl, rfl, rfl, rfl, trivial⟩, trivial, rfl, rfl⟩⟩
 | true =>
  refine iIn (fun h => nomatch h) (fun _ => ?_)
  have hs1 := hs
  refine cOw (choosePivot_spec hr hs1 (by omega) hb hn) fun v μ3 h' hle' hap hR => ?_
  obtain ⟨p, k, hp1, hp2, hk, rfl, rfl⟩ := hR
  replace hle := hle.trans hle'
  clear hle' hap
  refine ifd (fun hk2 => ?_) (fun hk2 => ?_)
  ·refine cOw (reverseRange_spec hs1 (by omega) hab hb hn) fun v μ4 h' hle' hap hR => ?_
   obtain ⟨rfl, e1, rfl⟩ := hR
   obtain rfl := e1.symm
   clear hle' hap
   have p2 := reverseRange_holds d a b hab (by omega)
   generalize reverseRange d a b = d2 at *
   replace hB := hB.perm (by omega) p2
   replace hfin := fun R h1 h2 => hfin R (permIn_trans _ _ _ _ _ p2 h1) h2
   have hs2 : d2.size = n := p2.1.trans hs1
   clear p2
   refine nEq (x := ((b - 1 : Nat) : Int)) (by rw [wrap64 (by omega) (by omega)]; omega) ?_
   refine nEq (x := ((p - a : Nat) : Int)) (by rw [wrap64 (by omega) (by omega)]; omega) ?_
   refine nEq (x := (((b - 1) - (p - a) : Nat) : Int)) (by rw [wrap64 (by omega) (by omega)]; omega) ?_
   refine iIn (fun _ => ?_) (fun h => nomatch h)
   refine iIn (fun hwp => ?_) (fun hwp => ?_)
   ·refine ifd (fun _ => ?_) (fun h => absurd rfl h)
    refine cOw (partialInsertionSort_spec hs2 (by omega) hb hn) fun v μ5 h' hle' hap hR => ?_
    obtain ⟨rfl, e1, rfl⟩ := hR
    obtain rfl := e1.symm
    clear hle' hap
    have q := partialInsertionSort_holds (lt := ltInt) swo_ltInt d2 a b (by omega) (by omega) hB
    refine iIn (fun hok => ?_) (fun hok => ?_)
    ·exact rPl ⟨rfl, _, (hfin _ q.1 (q.2 hok)).1, (hfin _ q.1 (q.2 hok)).2, rfl⟩
    ·have q1 := q.1
     clear q hok
     generalize (partialInsertionSort ltInt d2 a b).1 = d3 at *
     replace hB := hB.perm (by omega) q1
     replace hfin := fun R h1 h2 => hfin R (permIn_trans _ _ _ _ _ q1 h1) h2
     have hs3 : d3.size = n := q1.1.trans hs2
     clear q1
     refine ifd (fun ha0 => ?_) (fun ha0 => ?_)
     ·refine nEq (x := ((a - 1 : Nat) : Int)) (by rw [wrap64 (by omega) (by omega)]; omega) ?_
      refine idxI (a - 1) (by omega) (by omega) ?_
      refine rdI (by omega) ?_
      refine idxI ((b - 1) - (p - a)) (by omega) (by omega) ?_
      refine rdI (by omega) ?_
      refine cGv (Less_spec _ _) ?_
      refine iIn (fun hnl => ?_) (fun hnl => ?_)
      ·refine cOw (partitionEqual_spec (pivot := (b - 1) - (p - a)) hs3 (by omega) (by omega) hb hn) fun v μ6 h' hle' hap hR => ?_
       obtain ⟨rfl, e1, rfl⟩ := hR
       obtain rfl := e1.symm
       obtain ⟨mid, d4, hx⟩ : ∃ mid d4, partitionEqual ltInt d3 a b ((b - 1) - (p - a)) = (mid, d4) := ⟨_, _, rfl⟩
       rw [hx]
       have q := round_eq swo_ltInt (partitionEqual_holds ltInt) (by omega) (by omega) (by omega) (by omega) hB (by simpa using hnl) hx
       have qa := q.1
       exact ⟨(mid, b, limit, true, wp, d4, _), ⟨q.2.1, hb, by dsimp only; omega, by dsimp only; omega, q.2.2.1.trans hs3, q.2.2.2.1, hle, fun R h1 h2 => hfin R (q.2.2.2.2 R h1 h2).1 (q.2.2.2.2 R h1 h2).2⟩, by dsimp only; omega, ⟨⟨rfl, rfl, rfl, rfl, rfl, rfl, trivial⟩, trivial, rfl, rfl⟩⟩
      ·refine cOw (partition_spec (pivot := (b - 1) - (p - a)) hs3 (by omega) (by omega) hb hn) fun v μ6 h' hle' hap hR => ?_
       obtain ⟨⟨ap, rfl⟩, e1, rfl⟩ := hR
       obtain rfl := e1.symm
       obtain ⟨mid, ap', d4, hx⟩ : ∃ mid ap' d4, partition ltInt d3 a b ((b - 1) - (p - a)) = (mid, ap', d4) := ⟨_, _, _, rfl⟩
       rw [hx]
       have w_ := round_part swo_ltInt (partition_holds ltInt) (by omega) (by omega) (by omega) hB hx
       obtain ⟨q1, q2, q3, q4, q5, q6, q7⟩ := w_
       refine nEq (x := ((mid - a : Nat) : Int)) (by rw [wrap64 (by omega) (by omega)]; omega) ?_
       refine nEq (x := ((b - mid : Nat) : Int)) (by rw [wrap64 (by omega) (by omega)]; omega) ?_
       refine need_intro (by decide) ?_
       refine nEq (x := (((b - a) / 8 : Nat) : Int)) (by rw [Int.tdiv_eq_ediv_of_nonneg (by omega), wrap64 (by omega) (by omega)]; omega) ?_
       refine ifd (fun hlt => ?_) (fun hlt => ?_)
       ·refine cOw (ih a mid (limit) d4 _ (by omega) (by omega) (by omega) (q3.trans hs3) (by omega) q4) fun v μ7 h' hle7 hap hR => ?_
        obtain ⟨rfl, L, g1, g2, rfl⟩ := hR
        have w_ := q6 L g1 g2
        obtain ⟨g3, g4⟩ := w_
        refine nEq (x := ((mid + 1 : Nat) : Int)) (by rw [wrap64 (by omega) (by omega)]; omega) ?_
        exact ⟨(mid + 1, b, limit, _, ap, L, μ7), ⟨by dsimp only; omega, hb, by dsimp only; omega, by dsimp only; omega, g1.1.trans (q3.trans hs3), g3, hle.trans hle7, fun R h1 h2 => hfin R (g4 R h1 h2).1 (g4 R h1 h2).2⟩, by dsimp only; omega, ⟨⟨rfl, rfl, rfl, rfl, rfl, rfl, trivial⟩, trivial, rfl, rfl⟩⟩
       ·refine nEq (x := ((mid + 1 : Nat) : Int)) (by rw [wrap64 (by omega) (by omega)]; omega) ?_
        refine cOw (ih (mid + 1) b (limit) d4 _ (by omega) (by omega) (by omega) (q3.trans hs3) (by omega) q5) fun v μ7 h' hle7 hap hR => ?_
        obtain ⟨rfl, L, g1, g2, rfl⟩ := hR
        have w_ := q7 L g1 g2
        obtain ⟨g3, g4⟩ := w_
        exact ⟨(a, mid, limit, _, ap, L, μ7), ⟨by dsimp only; omega, by dsimp only; omega, by dsimp only; omega, by dsimp only; omega, g1.1.trans (q3.trans hs3), g3, hle.trans hle7, fun R h1 h2 => hfin R (g4 R h1 h2).1 (g4 R h1 h2).2⟩, by dsimp only; omega, ⟨⟨rfl, rfl, rfl, rfl, rfl, rfl, trivial⟩, trivial, rfl, rfl⟩⟩
     ·refine cOw (partition_spec (pivot := (b - 1) - (p - a)) hs3 (by omega) (by omega) hb hn) fun v μ6 h' hle' hap hR => ?_
      obtain ⟨⟨ap, rfl⟩, e1, rfl⟩ := hR
      obtain rfl := e1.symm
      obtain ⟨mid, ap', d4, hx⟩ : ∃ mid ap' d4, partition ltInt d3 a b ((b - 1) - (p - a)) = (mid, ap', d4) := ⟨_, _, _, rfl⟩
      rw [hx]
      have w_ := round_part swo_ltInt (partition_holds ltInt) (by omega) (by omega) (by omega) hB hx
      obtain ⟨q1, q2, q3, q4, q5, q6, q7⟩ := w_
      refine nEq (x := ((mid - a : Nat) : Int)) (by rw [wrap64 (by omega) (by omega)]; omega) ?_
      refine nEq (x := ((b - mid : Nat) : Int)) (by rw [wrap64 (by omega) (by omega)]; omega) ?_
      refine need_intro (by decide) ?_
      refine nEq (x := (((b - a) / 8 : Nat) : Int)) (by rw [Int.tdiv_eq_ediv_of_nonneg (by omega), wrap64 (by omega) (by omega)]; omega) ?_
      refine ifd (fun hlt => ?_) (fun hlt => ?_)
      ·refine cOw (ih a mid (limit) d4 _ (by omega) (by omega) (by omega) (q3.trans hs3) (by omega) q4) fun v μ7 h' hle7 hap hR => ?_
       obtain ⟨rfl, L, g1, g2, rfl⟩ := hR
       have w_ := q6 L g1 g2
       obtain ⟨g3, g4⟩ := w_
       refine nEq (x := ((mid + 1 : Nat) : Int)) (by rw [wrap64 (by omega) (by omega)]; omega) ?_
       exact ⟨(mid + 1, b, limit, _, ap, L, μ7), ⟨by dsimp only; omega, hb, by dsimp only; omega, by dsimp only; omega, g1.1.trans (q3.trans hs3), g3, hle.trans hle7, fun R h1 h2 => hfin R (g4 R h1 h2).1 (g4 R h1 h2).2⟩, by dsimp only; omega, ⟨⟨rfl, rfl, rfl, rfl, rfl, rfl, trivial⟩, trivial, rfl, rfl⟩⟩
      ·refine nEq (x := ((mid + 1 : Nat) : Int)) (by rw [wrap64 (by omega) (by omega)]; omega) ?_
       refine cOw (ih (mid + 1) b (limit) d4 _ (by omega) (by omega) (by omega) (q3.trans hs3) (by omega) q5) fun v μ7 h' hle7 hap hR => ?_
       obtain ⟨rfl, L, g1, g2, rfl⟩ := hR
       have w_ := q7 L g1 g2
       obtain ⟨g3, g4⟩ := w_
       exact ⟨(a, mid, limit, _, ap, L, μ7), ⟨by dsimp only; omega, by dsimp only; omega, by dsimp only; omega, by dsimp only; omega, g1.1.trans (q3.trans hs3), g3, hle.trans hle7, fun R h1 h2 => hfin R (g4 R h1 h2).1 (g4 R h1 h2).2⟩, by dsimp only; omega, ⟨⟨rfl, rfl, rfl, rfl, rfl, rfl, trivial⟩, trivial, rfl, rfl⟩⟩
   ·refine ifd (fun ha0 => ?_) (fun ha0 => ?_)
    ·refine nEq (x := ((a - 1 : Nat) : Int)) (by rw [wrap64 (by omega) (by omega)]; omega) ?_
     refine idxI (a - 1) (by omega) (by omega) ?_
     refine rdI (by omega) ?_
     refine idxI ((b - 1) - (p - a)) (by omega) (by omega) ?_
     refine rdI (by omega) ?_
     refine cGv (Less_spec _ _) ?_
     refine iIn (fun hnl => ?_) (fun hnl => ?_)
     ·refine cOw (partitionEqual_spec (pivot := (b - 1) - (p - a)) hs2 (by omega) (by omega) hb hn) fun v μ6 h' hle' hap hR => ?_
      obtain ⟨rfl, e1, rfl⟩ := hR
      obtain rfl := e1.symm
      obtain ⟨mid, d4, hx⟩ : ∃ mid d4, partitionEqual ltInt d2 a b ((b - 1) - (p - a)) = (mid, d4) := ⟨_, _, rfl⟩
      rw [hx]
      have q := round_eq swo_ltInt (partitionEqual_holds ltInt) (by omega) (by omega) (by omega) (by omega) hB (by simpa using hnl) hx
      have qa := q.1
      exact ⟨(mid, b, limit, true, wp, d4, _), ⟨q.2.1, hb, by dsimp only; omega, by dsimp only; omega, q.2.2.1.trans hs2, q.2.2.2.1, hle, fun R h1 h2 => hfin R (q.2.2.2.2 R h1 h2).1 (q.2.2.2.2 R h1 h2).2⟩, by dsimp only; omega, ⟨⟨rfl, rfl, rfl, rfl, rfl, rfl, trivial⟩, trivial, rfl, rfl⟩⟩
     ·refine cOw (partition_spec (pivot := (b - 1) - (p - a)) hs2 (by omega) (by omega) hb hn) fun v μ6 h' hle' hap hR => ?_
      obtain ⟨⟨ap, rfl⟩, e1, rfl⟩ := hR
      obtain rfl := e1.symm
      obtain ⟨mid, ap', d4, hx⟩ : ∃ mid ap' d4, partition ltInt d2 a b ((b - 1) - (p - a)) = (mid, ap', d4) := ⟨_, _, _, rfl⟩
      rw [hx]
      have w_ := round_part swo_ltInt (partition_holds ltInt) (by omega) (by omega) (by omega) hB hx
      obtain ⟨q1, q2, q3, q4, q5, q6, q7⟩ := w_
      refine nEq (x := ((mid - a : Nat) : Int)) (by rw [wrap64 (by omega) (by omega)]; omega) ?_
      refine nEq (x := ((b - mid : Nat) : Int)) (by rw [wrap64 (by omega) (by omega)]; omega) ?_
      refine need_intro (by decide) ?_
      refine nEq (x := (((b - a) / 8 : Nat) : Int)) (by rw [Int.tdiv_eq_ediv_of_nonneg (by omega), wrap64 (by omega) (by omega)]; omega) ?_
      refine ifd (fun hlt => ?_) (fun hlt => ?_)
      ·refine cOw (ih a mid (limit) d4 _ (by omega) (by omega) (by omega) (q3.trans hs2) (by omega) q4) fun v μ7 h' hle7 hap hR => ?_
       obtain ⟨rfl, L, g1, g2, rfl⟩ := hR
       have w_ := q6 L g1 g2
       obtain ⟨g3, g4⟩ := w_
       refine nEq (x := ((mid + 1 : Nat) : Int)) (by rw [wrap64 (by omega) (by omega)]; omega) ?_
       exact ⟨(mid + 1, b, limit, _, ap, L, μ7), ⟨by dsimp only; omega, hb, by dsimp only; omega, by dsimp only; omega, g1.1.trans (q3.trans hs2), g3, hle.trans hle7, fun R h1 h2 => hfin R (g4 R h1 h2).1 (g4 R h1 h2).2⟩, by dsimp only; omega, ⟨⟨rfl, rfl, rfl, rfl, rfl, rfl, trivial⟩, trivial, rfl, rfl⟩⟩
      ·refine nEq (x := ((mid + 1 : Nat) : Int)) (by rw [wrap64 (by omega) (by omega)]; omega) ?_
       refine cOw (ih (mid + 1) b (limit) d4 _ (by omega) (by omega) (by omega) (q3.trans hs2) (by omega) q5) fun v μ7 h' hle7 hap hR => ?_
       obtain ⟨rfl, L, g1, g2, rfl⟩ := hR
       have w_ := q7 L g1 g2
       obtain ⟨g3, g4⟩ := w_
       exact ⟨(a, mid, limit, _, ap, L, μ7), ⟨by dsimp only; omega, by dsimp only; omega, by dsimp only; omega, by dsimp only; omega, g1.1.trans (q3.trans hs2), g3, hle.trans hle7, fun R h1 h2 => hfin R (g4 R h1 h2).1 (g4 R h1 h2).2⟩, by dsimp only; omega, ⟨⟨rfl, rfl, rfl, rfl, rfl, rfl, trivial⟩, trivial, rfl, rfl⟩⟩
    ·refine cOw (partition_spec (pivot := (b - 1) - (p - a)) hs2 (by omega) (by omega) hb hn) fun v μ6 h' hle' hap hR => ?_
     obtain ⟨⟨ap, rfl⟩, e1, rfl⟩ := hR
     obtain rfl := e1.symm
     obtain ⟨mid, ap', d4, hx⟩ : ∃ mid ap' d4, partition ltInt d2 a b ((b - 1) - (p - a)) = (mid, ap', d4) := ⟨_, _, _, rfl⟩
     rw [hx]
     have w_ := round_part swo_ltInt (partition_holds ltInt) (by omega) (by omega) (by omega) hB hx
     obtain ⟨q1, q2, q3, q4, q5, q6, q7⟩ := w_
     refine nEq (x := ((mid - a : Nat) : Int)) (by rw [wrap64 (by omega) (by omega)]; omega) ?_
     refine nEq (x := ((b - mid : Nat) : Int)) (by rw [wrap64 (by omega) (by omega)]; omega) ?_
     refine need_intro (by decide) ?_
     refine nEq (x := (((b - a) / 8 : Nat) : Int)) (by rw [Int.tdiv_eq_ediv_of_nonneg (by omega), wrap64 (by omega) (by omega)]; omega) ?_
     refine ifd (fun hlt => ?_) (fun hlt => ?_)
     ·refine cOw (ih a mid (limit) d4 _ (by omega) (by omega) (by omega) (q3.trans hs2) (by omega) q4) fun v μ7 h' hle7 hap hR => ?_
      obtain ⟨rfl, L, g1, g2, rfl⟩ := hR
      have w_ := q6 L g1 g2
      obtain ⟨g3, g4⟩ := w_
      refine nEq (x := ((mid + 1 : Nat) : Int)) (by rw [wrap64 (by omega) (by omega)]; omega) ?_
      exact ⟨(mid + 1, b, limit, _, ap, L, μ7), ⟨by dsimp only; omega, hb, by dsimp only; omega, by dsimp only; omega, g1.1.trans (q3.trans hs2), g3, hle.trans hle7, fun R h1 h2 => hfin R (g4 R h1 h2).1 (g4 R h1 h2).2⟩, by dsimp only; omega, ⟨⟨rfl, rfl, rfl, rfl, rfl, rfl, trivial⟩, trivial, rfl, rfl⟩⟩
     ·refine nEq (x := ((mid + 1 : Nat) : Int)) (by rw [wrap64 (by omega) (by omega)]; omega) ?_
      refine cOw (ih (mid + 1) b (limit) d4 _ (by omega) (by omega) (by omega) (q3.trans hs2) (by omega) q5) fun v μ7 h' hle7 hap hR => ?_
      obtain ⟨rfl, L, g1, g2, rfl⟩ := hR
      have w_ := q7 L g1 g2
      obtain ⟨g3, g4⟩ := w_
      exact ⟨(a, mid, limit, _, ap, L, μ7), ⟨by dsimp only; omega, by dsimp only; omega, by dsimp only; omega, by dsimp only; omega, g1.1.trans (q3.trans hs2), g3, hle.trans hle7, fun R h1 h2 => hfin R (g4 R h1 h2).1 (g4 R h1 h2).2⟩, by dsimp only; omega, ⟨⟨rfl, rfl, rfl, rfl, rfl, rfl, trivial⟩, trivial, rfl, rfl⟩⟩
  ·refine iIn (fun _ => ?_) (fun h => nomatch h)
   refine iIn (fun hwp => ?_) (fun hwp => ?_)
   ·refine ifd (fun hk1 => ?_) (fun hk1 => ?_)
    ·refine cOw (partialInsertionSort_spec hs1 (by omega) hb hn) fun v μ5 h' hle' hap hR => ?_
     obtain ⟨rfl, e1, rfl⟩ := hR
     obtain rfl := e1.symm
     clear hle' hap
     have q := partialInsertionSort_holds (lt := ltInt) swo_ltInt d a b (by omega) (by omega) hB
     refine iIn (fun hok => ?_) (fun hok => ?_)
     ·exact rPl ⟨rfl, _, (hfin _ q.1 (q.2 hok)).1, (hfin _ q.1 (q.2 hok)).2, rfl⟩
     ·have q1 := q.1
      clear q hok
      generalize (partialInsertionSort ltInt d a b).1 = d3 at *
      replace hB := hB.perm (by omega) q1
      replace hfin := fun R h1 h2 => hfin R (permIn_trans _ _ _ _ _ q1 h1) h2
      have hs3 : d3.size = n := q1.1.trans hs1
      clear q1
      refine ifd (fun ha0 => ?_) (fun ha0 => ?_)
      ·refine nEq (x := ((a - 1 : Nat) : Int)) (by rw [wrap64 (by omega) (by omega)]; omega) ?_
       refine idxI (a - 1) (by omega) (by omega) ?_
       refine rdI (by omega) ?_
       refine idxI (p) (by omega) (by omega) ?_
       refine rdI (by omega) ?_
       refine cGv (Less_spec _ _) ?_
       refine iIn (fun hnl => ?_) (fun hnl => ?_)
       ·refine cOw (partitionEqual_spec (pivot := p) hs3 (by omega) (by omega) hb hn) fun v μ6 h' hle' hap hR => ?_
        obtain ⟨rfl, e1, rfl⟩ := hR
        obtain rfl := e1.symm
        obtain ⟨mid, d4, hx⟩ : ∃ mid d4, partitionEqual ltInt d3 a b (p) = (mid, d4) := ⟨_, _, rfl⟩
        rw [hx]
        have q := round_eq swo_ltInt (partitionEqual_holds ltInt) (by omega) (by omega) (by omega) (by omega) hB (by simpa using hnl) hx
        have qa := q.1
        exact ⟨(mid, b, limit, true, wp, d4, _), ⟨q.2.1, hb, by dsimp only; omega, by dsimp only; omega, q.2.2.1.trans hs3, q.2.2.2.1, hle, fun R h1 h2 => hfin R (q.2.2.2.2 R h1 h2).1 (q.2.2.2.2 R h1 h2).2⟩, by dsimp only; omega, ⟨⟨rfl, rfl, rfl, rfl, rfl, rfl, trivial⟩, trivial, rfl, rfl⟩⟩
       ·refine cOw (partition_spec (pivot := p) hs3 (by omega) (by omega) hb hn) fun v μ6 h' hle' hap hR => ?_
        obtain ⟨⟨ap, rfl⟩, e1, rfl⟩ := hR
        obtain rfl := e1.symm
        obtain ⟨mid, ap', d4, hx⟩ : ∃ mid ap' d4, partition ltInt d3 a b (p) = (mid, ap', d4) := ⟨_, _, _, rfl⟩
        rw [hx]
        have w_ := round_part swo_ltInt (partition_holds ltInt) (by omega) (by omega) (by omega) hB hx
        obtain ⟨q1, q2, q3, q4, q5, q6, q7⟩ := w_
        refine nEq (x := ((mid - a : Nat) : Int)) (by rw [wrap64 (by omega) (by omega)]; omega) ?_
        refine nEq (x := ((b - mid : Nat) : Int)) (by rw [wrap64 (by omega) (by omega)]; omega) ?_
        refine need_intro (by decide) ?_
        refine nEq (x := (((b - a) / 8 : Nat) : Int)) (by rw [Int.tdiv_eq_ediv_of_nonneg (by omega), wrap64 (by omega) (by omega)]; omega) ?_
        refine ifd (fun hlt => ?_) (fun hlt => ?_)
        ·refine cOw (ih a mid (limit) d4 _ (by omega) (by omega) (by omega) (q3.trans hs3) (by omega) q4) fun v μ7 h' hle7 hap hR => ?_
         obtain ⟨rfl, L, g1, g2, rfl⟩ := hR
         have w_ := q6 L g1 g2
         obtain ⟨g3, g4⟩ := w_
         refine nEq (x := ((mid + 1 : Nat) : Int)) (by rw [wrap64 (by omega) (by omega)]; omega) ?_
         exact ⟨(mid + 1, b, limit, _, ap, L, μ7), ⟨by dsimp only; omega, hb, by dsimp only; omega, by dsimp only; omega, g1.1.trans (q3.trans hs3), g3, hle.trans hle7, fun R h1 h2 => hfin R (g4 R h1 h2).1 (g4 R h1 h2).2⟩, by dsimp only; omega, ⟨⟨rfl, rfl, rfl, rfl, rfl, rfl, trivial⟩, trivial, rfl, rfl⟩⟩
        ·refine nEq (x := ((mid + 1 : Nat) : Int)) (by rw [wrap64 (by omega) (by omega)]; omega) ?_
         refine cOw (ih (mid + 1) b (limit) d4 _ (by omega) (by omega) (by omega) (q3.trans hs3) (by omega) q5) fun v μ7 h' hle7 hap hR => ?_
         obtain ⟨rfl, L, g1, g2, rfl⟩ := hR
         have w_ := q7 L g1 g2
         obtain ⟨g3, g4⟩ := w_
         exact ⟨(a, mid, limit, _, ap, L, μ7), ⟨by dsimp only; omega, by dsimp only; omega, by dsimp only; omega, by dsimp only; omega, g1.1.trans (q3.trans hs3), g3, hle.trans hle7, fun R h1 h2 => hfin R (g4 R h1 h2).1 (g4 R h1 h2).2⟩, by dsimp only; omega, ⟨⟨rfl, rfl, rfl, rfl, rfl, rfl, trivial⟩, trivial, rfl, rfl⟩⟩
      ·refine cOw (partition_spec (pivot := p) hs3 (by omega) (by omega) hb hn) fun v μ6 h' hle' hap hR => ?_
       obtain ⟨⟨ap, rfl⟩, e1, rfl⟩ := hR
       obtain rfl := e1.symm
       obtain ⟨mid, ap', d4, hx⟩ : ∃ mid ap' d4, partition ltInt d3 a b (p) = (mid, ap', d4) := ⟨_, _, _, rfl⟩
       rw [hx]
       have w_ := round_part swo_ltInt (partition_holds ltInt) (by omega) (by omega) (by omega) hB hx
       obtain ⟨q1, q2, q3, q4, q5, q6, q7⟩ := w_
       refine nEq (x := ((mid - a : Nat) : Int)) (by rw [wrap64 (by omega) (by omega)]; omega) ?_
       refine nEq (x := ((b - mid : Nat) : Int)) (by rw [wrap64 (by omega) (by omega)]; omega) ?_
       refine need_intro (by decide) ?_
       refine nEq (x := (((b - a) / 8 : Nat) : Int)) (by rw [Int.tdiv_eq_ediv_of_nonneg (by omega), wrap64 (by omega) (by omega)]; omega) ?_
       refine ifd (fun hlt => ?_) (fun hlt => ?_)
       ·refine cOw (ih a mid (limit) d4 _ (by omega) (by omega) (by omega) (q3.trans hs3) (by omega) q4) fun v μ7 h' hle7 hap hR => ?_
        obtain ⟨rfl, L, g1, g2, rfl⟩ := hR
        have w_ := q6 L g1 g2
        obtain ⟨g3, g4⟩ := w_
        refine nEq (x := ((mid + 1 : Nat) : Int)) (by rw [wrap64 (by omega) (by omega)]; omega) ?_
        exact ⟨(mid + 1, b, limit, _, ap, L, μ7), ⟨by dsimp only; omega, hb, by dsimp only; omega, by dsimp only; omega, g1.1.trans (q3.trans hs3), g3, hle.trans hle7, fun R h1 h2 => hfin R (g4 R h1 h2).1 (g4 R h1 h2).2⟩, by dsimp only; omega, ⟨⟨rfl, rfl, rfl, rfl, rfl, rfl, trivial⟩, trivial, rfl, rfl⟩⟩
       ·refine nEq (x := ((mid + 1 : Nat) : Int)) (by rw [wrap64 (by omega) (by omega)]; omega) ?_
        refine cOw (ih (mid + 1) b (limit) d4 _ (by omega) (by omega) (by omega) (q3.trans hs3) (by omega) q5) fun v μ7 h' hle7 hap hR => ?_
        obtain ⟨rfl, L, g1, g2, rfl⟩ := hR
        have w_ := q7 L g1 g2
        obtain ⟨g3, g4⟩ := w_
        exact ⟨(a, mid, limit, _, ap, L, μ7), ⟨by dsimp only; omega, by dsimp only; omega, by dsimp only; omega, by dsimp only; omega, g1.1.trans (q3.trans hs3), g3, hle.trans hle7, fun R h1 h2 => hfin R (g4 R h1 h2).1 (g4 R h1 h2).2⟩, by dsimp only; omega, ⟨⟨rfl, rfl, rfl, rfl, rfl, rfl, trivial⟩, trivial, rfl, rfl⟩⟩
    ·refine ifd (fun ha0 => ?_) (fun ha0 => ?_)
     ·refine nEq (x := ((a - 1 : Nat) : Int)) (by rw [wrap64 (by omega) (by omega)]; omega) ?_
      refine idxI (a - 1) (by omega) (by omega) ?_
      refine rdI (by omega) ?_
      refine idxI (p) (by omega) (by omega) ?_
      refine rdI (by omega) ?_
      refine cGv (Less_spec _ _) ?_
      refine iIn (fun hnl => ?_) (fun hnl => ?_)
      ·refine cOw (partitionEqual_spec (pivot := p) hs1 (by omega) (by omega) hb hn) fun v μ6 h' hle' hap hR => ?_
       obtain ⟨rfl, e1, rfl⟩ := hR
       obtain rfl := e1.symm
       obtain ⟨mid, d4, hx⟩ : ∃ mid d4, partitionEqual ltInt d a b (p) = (mid, d4) := ⟨_, _, rfl⟩
       rw [hx]
       have q := round_eq swo_ltInt (partitionEqual_holds ltInt) (by omega) (by omega) (by omega) (by omega) hB (by simpa using hnl) hx
       have qa := q.1
       exact ⟨(mid, b, limit, true, wp, d4, _), ⟨q.2.1, hb, by dsimp only; omega, by dsimp only; omega, q.2.2.1.trans hs1, q.2.2.2.1, hle, fun R h1 h2 => hfin R (q.2.2.2.2 R h1 h2).1 (q.2.2.2.2 R h1 h2).2⟩, by dsimp only; omega, ⟨⟨rfl, rfl, rfl, rfl, rfl, rfl, trivial⟩, trivial, rfl, rfl⟩⟩
      ·refine cOw (partition_spec (pivot := p) hs1 (by omega) (by omega) hb hn) fun v μ6 h' hle' hap hR => ?_
       obtain ⟨⟨ap, rfl⟩, e1, rfl⟩ := hR
       obtain rfl := e1.symm
       obtain ⟨mid, ap', d4, hx⟩ : ∃ mid ap' d4, partition ltInt d a b (p) = (mid, ap', d4) := ⟨_, _, _, rfl⟩
       rw [hx]
       have w_ := round_part swo_ltInt (partition_holds ltInt) (by omega) (by omega) (by omega) hB hx
       obtain ⟨q1, q2, q3, q4, q5, q6, q7⟩ := w_
       refine nEq (x := ((mid - a : Nat) : Int)) (by rw [wrap64 (by omega) (by omega)]; omega) ?_
       refine nEq (x := ((b - mid : Nat) : Int)) (by rw [wrap64 (by omega) (by omega)]; omega) ?_
       refine need_intro (by decide) ?_
       refine nEq (x := (((b - a) / 8 : Nat) : Int)) (by rw [Int.tdiv_eq_ediv_of_nonneg (by omega), wrap64 (by omega) (by omega)]; omega) ?_
       refine ifd (fun hlt => ?_) (fun hlt => ?_)
       ·refine cOw (ih a mid (limit) d4 _ (by omega) (by omega) (by omega) (q3.trans hs1) (by omega) q4) fun v μ7 h' hle7 hap hR => ?_
        obtain ⟨rfl, L, g1, g2, rfl⟩ := hR
        have w_ := q6 L g1 g2
        obtain ⟨g3, g4⟩ := w_
        refine nEq (x := ((mid + 1 : Nat) : Int)) (by rw [wrap64 (by omega) (by omega)]; omega) ?_
        exact ⟨(mid + 1, b, limit, _, ap, L, μ7), ⟨by dsimp only; omega, hb, by dsimp only; omega, by dsimp only; omega, g1.1.trans (q3.trans hs1), g3, hle.trans hle7, fun R h1 h2 => hfin R (g4 R h1 h2).1 (g4 R h1 h2).2⟩, by dsimp only; omega, ⟨⟨rfl, rfl, rfl, rfl, rfl, rfl, trivial⟩, trivial, rfl, rfl⟩⟩
       ·refine nEq (x := ((mid + 1 : Nat) : Int)) (by rw [wrap64 (by omega) (by omega)]; omega) ?_
        refine cOw (ih (mid + 1) b (limit) d4 _ (by omega) (by omega) (by omega) (q3.trans hs1) (by omega) q5) fun v μ7 h' hle7 hap hR => ?_
        obtain ⟨rfl, L, g1, g2, rfl⟩ := hR
        have w_ := q7 L g1 g2
        obtain ⟨g3, g4⟩ := w_
        exact ⟨(a, mid, limit, _, ap, L, μ7), ⟨by dsimp only; omega, by dsimp only; omega, by dsimp only; omega, by dsimp only; omega, g1.1.trans (q3.trans hs1), g3, hle.trans hle7, fun R h1 h2 => hfin R (g4 R h1 h2).1 (g4 R h1 h2).2⟩, by dsimp only; omega, ⟨⟨rfl, rfl, rfl, rfl, rfl, rfl, trivial⟩, trivial, rfl, rfl⟩⟩
     ·refine cOw (partition_spec (pivot := p) hs1 (by omega) (by omega) hb hn) fun v μ6 h' hle' hap hR => ?_
      obtain ⟨⟨ap, rfl⟩, e1, rfl⟩ := hR
      obtain rfl := e1.symm
      obtain ⟨mid, ap', d4, hx⟩ : ∃ mid ap' d4, partition ltInt d a b (p) = (mid, ap', d4) := ⟨_, _, _, rfl⟩
      rw [hx]
      have w_ := round_part swo_ltInt (partition_holds ltInt) (by omega) (by omega) (by omega) hB hx
      obtain ⟨q1, q2, q3, q4, q5, q6, q7⟩ := w_
      refine nEq (x := ((mid - a : Nat) : Int)) (by rw [wrap64 (by omega) (by omega)]; omega) ?_
      refine nEq (x := ((b - mid : Nat) : Int)) (by rw [wrap64 (by omega) (by omega)]; omega) ?_
      refine need_intro (by decide) ?_
      refine nEq (x := (((b - a) / 8 : Nat) : Int)) (by rw [Int.tdiv_eq_ediv_of_nonneg (by omega), wrap64 (by omega) (by omega)]; omega) ?_
      refine ifd (fun hlt => ?_) (fun hlt => ?_)
      ·refine cOw (ih a mid (limit) d4 _ (by omega) (by omega) (by omega) (q3.trans hs1) (by omega) q4) fun v μ7 h' hle7 hap hR => ?_
       obtain ⟨rfl, L, g1, g2, rfl⟩ := hR
       have w_ := q6 L g1 g2
       obtain ⟨g3, g4⟩ := w_
       refine nEq (x := ((mid + 1 : Nat) : Int)) (by rw [wrap64 (by omega) (by omega)]; omega) ?_
       exact ⟨(mid + 1, b, limit, _, ap, L, μ7), ⟨by dsimp only; omega, hb, by dsimp only; omega, by dsimp only; omega, g1.1.trans (q3.trans hs1), g3, hle.trans hle7, fun R h1 h2 => hfin R (g4 R h1 h2).1 (g4 R h1 h2).2⟩, by dsimp only; omega, ⟨⟨rfl, rfl, rfl, rfl, rfl, rfl, trivial⟩, trivial, rfl, rfl⟩⟩
      ·refine nEq (x := ((mid + 1 : Nat) : Int)) (by rw [wrap64 (by omega) (by omega)]; omega) ?_
       refine cOw (ih (mid + 1) b (limit) d4 _ (by omega) (by omega) (by omega) (q3.trans hs1) (by omega) q5) fun v μ7 h' hle7 hap hR => ?_
       obtain ⟨rfl, L, g1, g2, rfl⟩ := hR
       have w_ := q7 L g1 g2
       obtain ⟨g3, g4⟩ := w_
       exact ⟨(a, mid, limit, _, ap, L, μ7), ⟨by dsimp only; omega, by dsimp only; omega, by dsimp only; omega, by dsimp only; omega, g1.1.trans (q3.trans hs1), g3, hle.trans hle7, fun R h1 h2 => hfin R (g4 R h1 h2).1 (g4 R h1 h2).2⟩, by dsimp only; omega, ⟨⟨rfl, rfl, rfl, rfl, rfl, rfl, trivial⟩, trivial, rfl, rfl⟩⟩
   ·refine ifd (fun ha0 => ?_) (fun ha0 => ?_)
    ·refine nEq (x := ((a - 1 : Nat) : Int)) (by rw [wrap64 (by omega) (by omega)]; omega) ?_
     refine idxI (a - 1) (by omega) (by omega) ?_
     refine rdI (by omega) ?_
     refine idxI (p) (by omega) (by omega) ?_
     refine rdI (by omega) ?_
     refine cGv (Less_spec _ _) ?_
     refine iIn (fun hnl => ?_) (fun hnl => ?_)
     ·refine cOw (partitionEqual_spec (pivot := p) hs1 (by omega) (by omega) hb hn) fun v μ6 h' hle' hap hR => ?_
      obtain ⟨rfl, e1, rfl⟩ := hR
      obtain rfl := e1.symm
      obtain ⟨mid, d4, hx⟩ : ∃ mid d4, partitionEqual ltInt d a b (p) = (mid, d4) := ⟨_, _, rfl⟩
      rw [hx]
      have q := round_eq swo_ltInt (partitionEqual_holds ltInt) (by omega) (by omega) (by omega) (by omega) hB (by simpa using hnl) hx
      have qa := q.1
      exact ⟨(mid, b, limit, true, wp, d4, _), ⟨q.2.1, hb, by dsimp only; omega, by dsimp only; omega, q.2.2.1.trans hs1, q.2.2.2.1, hle, fun R h1 h2 => hfin R (q.2.2.2.2 R h1 h2).1 (q.2.2.2.2 R h1 h2).2⟩, by dsimp only; omega, ⟨⟨rfl, rfl, rfl, rfl, rfl, rfl, trivial⟩, trivial, rfl, rfl⟩⟩
     ·refine cOw (partition_spec (pivot := p) hs1 (by omega) (by omega) hb hn) fun v μ6 h' hle' hap hR => ?_
      obtain ⟨⟨ap, rfl⟩, e1, rfl⟩ := hR
      obtain rfl := e1.symm
      obtain ⟨mid, ap', d4, hx⟩ : ∃ mid ap' d4, partition ltInt d a b (p) = (mid, ap', d4) := ⟨_, _, _, rfl⟩
      rw [hx]
      have w_ := round_part swo_ltInt (partition_holds ltInt) (by omega) (by omega) (by omega) hB hx
      obtain ⟨q1, q2, q3, q4, q5, q6, q7⟩ := w_
      refine nEq (x := ((mid - a : Nat) : Int)) (by rw [wrap64 (by omega) (by omega)]; omega) ?_
      refine nEq (x := ((b - mid : Nat) : Int)) (by rw [wrap64 (by omega) (by omega)]; omega) ?_
      refine need_intro (by decide) ?_
      refine nEq (x := (((b - a) / 8 : Nat) : Int)) (by rw [Int.tdiv_eq_ediv_of_nonneg (by omega), wrap64 (by omega) (by omega)]; omega) ?_
      refine ifd (fun hlt => ?_) (fun hlt => ?_)
      ·refine cOw (ih a mid (limit) d4 _ (by omega) (by omega) (by omega) (q3.trans hs1) (by omega) q4) fun v μ7 h' hle7 hap hR => ?_
       obtain ⟨rfl, L, g1, g2, rfl⟩ := hR
       have w_ := q6 L g1 g2
       obtain ⟨g3, g4⟩ := w_
       refine nEq (x := ((mid + 1 : Nat) : Int)) (by rw [wrap64 (by omega) (by omega)]; omega) ?_
       exact ⟨(mid + 1, b, limit, _, ap, L, μ7), ⟨by dsimp only; omega, hb, by dsimp only; omega, by dsimp only; omega, g1.1.trans (q3.trans hs1), g3, hle.trans hle7, fun R h1 h2 => hfin R (g4 R h1 h2).1 (g4 R h1 h2).2⟩, by dsimp only; omega, ⟨⟨rfl, rfl, rfl, rfl, rfl, rfl, trivial⟩, trivial, rfl, rfl⟩⟩
      ·refine nEq (x := ((mid + 1 : Nat) : Int)) (by rw [wrap64 (by omega) (by omega)]; omega) ?_
       refine cOw (ih (mid + 1) b (limit) d4 _ (by omega) (by omega) (by omega) (q3.trans hs1) (by omega) q5) fun v μ7 h' hle7 hap hR => ?_
       obtain ⟨rfl, L, g1, g2, rfl⟩ := hR
       have w_ := q7 L g1 g2
       obtain ⟨g3, g4⟩ := w_
       exact ⟨(a, mid, limit, _, ap, L, μ7), ⟨by dsimp only; omega, by dsimp only; omega, by dsimp only; omega, by dsimp only; omega, g1.1.trans (q3.trans hs1), g3, hle.trans hle7, fun R h1 h2 => hfin R (g4 R h1 h2).1 (g4 R h1 h2).2⟩, by dsimp only; omega, ⟨⟨rfl, rfl, rfl, rfl, rfl, rfl, trivial⟩, trivial, rfl, rfl⟩⟩
    ·refine cOw (partition_spec (pivot := p) hs1 (by omega) (by omega) hb hn) fun v μ6 h' hle' hap hR => ?_
     obtain ⟨⟨ap, rfl⟩, e1, rfl⟩ := hR
     obtain rfl := e1.symm
     obtain ⟨mid, ap', d4, hx⟩ : ∃ mid ap' d4, partition ltInt d a b (p) = (mid, ap', d4) := ⟨_, _, _, rfl⟩
     rw [hx]
     have w_ := round_part swo_ltInt (partition_holds ltInt) (by omega) (by omega) (by omega) hB hx
     obtain ⟨q1, q2, q3, q4, q5, q6, q7⟩ := w_
     refine nEq (x := ((mid - a : Nat) : Int)) (by rw [wrap64 (by omega) (by omega)]; omega) ?_
     refine nEq (x := ((b - mid : Nat) : Int)) (by rw [wrap64 (by omega) (by omega)]; omega) ?_
     refine need_intro (by decide) ?_
     refine nEq (x := (((b - a) / 8 : Nat) : Int)) (by rw [Int.tdiv_eq_ediv_of_nonneg (by omega), wrap64 (by omega) (by omega)]; omega) ?_
     refine ifd (fun hlt => ?_) (fun hlt => ?_)
     ·refine cOw (ih a mid (limit) d4 _ (by omega) (by omega) (by omega) (q3.trans hs1) (by omega) q4) fun v μ7 h' hle7 hap hR => ?_
      obtain ⟨rfl, L, g1, g2, rfl⟩ := hR
      have w_ := q6 L g1 g2
      obtain ⟨g3, g4⟩ := w_
      refine nEq (x := ((mid + 1 : Nat) : Int)) (by rw [wrap64 (by omega) (by omega)]; omega) ?_
      exact ⟨(mid + 1, b, limit, _, ap, L, μ7), ⟨by dsimp only; omega, hb, by dsimp only; omega, by dsimp only; omega, g1.1.trans (q3.trans hs1), g3, hle.trans hle7, fun R h1 h2 => hfin R (g4 R h1 h2).1 (g4 R h1 h2).2⟩, by dsimp only; omega, ⟨⟨rfl, rfl, rfl, rfl, rfl, rfl, trivial⟩, trivial, rfl, rfl⟩⟩
     ·refine nEq (x := ((mid + 1 : Nat) : Int)) (by rw [wrap64 (by omega) (by omega)]; omega) ?_
      refine cOw (ih (mid + 1) b (limit) d4 _ (by omega) (by omega) (by omega) (q3.trans hs1) (by omega) q5) fun v μ7 h' hle7 hap hR => ?_
      obtain ⟨rfl, L, g1, g2, rfl⟩ := hR
      have w_ := q7 L g1 g2
      obtain ⟨g3, g4⟩ := w_
      exact ⟨(a, mid, limit, _, ap, L, μ7), ⟨by dsimp only; omega, by dsimp only; omega, by dsimp only; omega, by dsimp only; omega, g1.1.trans (q3.trans hs1), g3, hle.trans hle7, fun R h1 h2 => hfin R (g4 R h1 h2).1 (g4 R h1 h2).2⟩, by dsimp only; omega, ⟨⟨rfl, rfl, rfl, rfl, rfl, rfl, trivial⟩, trivial, rfl, rfl⟩⟩
end
end Go.Vx
namespace Go.Vx
open Go.Proofs Classical
open Go.Sort
section
variable {h0 μ : Mem} {r : Nat} {ty : TypeId} {rest : List Value}
theorem Sort_spec {n cap : Nat} {d : Array Int} (hr : h0 r = none) (hd : d.size = n) (hn : n ≤ 1000000000000) :
  SpecH Try.prog 159 [.slice (some ⟨r, 0, none⟩) n cap] μ (RowI h0 r ty rest d) fun v _μ' h' => v = .tuple #[] ∧ h' = RowI h0 r ty rest (d.toList.mergeSort fun x y => decide (x ≤ y)).toArray := by
 refine SpecH.mk [] Try.func159 (by kernel_rfl) ?_
 refine nEq (x := (n : Int)) (by
  show (n : Int) % 18446744073709551616 = _
  omega) ?_
 refine cGv (Len_spec (by omega)) ?_
 have hL : bitsLen n ≤ 40 := (bitsLen_le_iff n 40).2 (by omega)
 refine cOw (pdqsort_spec hr hn (n + 1) 0 n (bitsLen n) d μ (by omega) (by omega) (Nat.le_refl _) hd (by omega) (.inl rfl)) fun v μ' h' hle hap hR => ?_
 obtain ⟨rfl, d', p1, p2, rfl⟩ := hR
 have e := sorted_unique_holds (lt := ltInt) swo_ltInt (fun x y h1 h2 => by
  simp only [ltInt, decide_eq_false_iff_not] at h1 h2
  omega) d d' (by rw [hd]; exact p1) (by rw [hd]; exact p2)
 have e2 : (fun x y => !ltInt y x) = fun x y : Int => decide (x ≤ y) := by
  funext x y
  simp only [ltInt]
  by_cases h : x ≤ y
  ·rw [decide_eq_true h, decide_eq_false (by omega)]; rfl
  ·rw [decide_eq_false h, decide_eq_true (by omega)]; rfl
 rw [e2] at e
 refine rPl ⟨rfl, ?_⟩
 rw [← e]
theorem Ints_spec {n cap : Nat} {d : Array Int} (hr : h0 r = none) (hd : d.size = n) (hn : n ≤ 1000000000000) :
  SpecH Try.prog 126 [.slice (some ⟨r, 0, none⟩) n cap] μ (RowI h0 r ty rest d) fun v _μ' h' => v = .tuple #[] ∧ h' = RowI h0 r ty rest (d.toList.mergeSort fun x y => decide (x ≤ y)).toArray := by
 refine SpecH.mk [] Try.func126 (by kernel_rfl) ?_
 refine cOw (Sort_spec hr hd hn) fun v μ' h' hle hap hR => ?_
 obtain ⟨rfl, rfl⟩ := hR
 exact rPl ⟨rfl, rfl⟩
end
end Go.Vx
namespace Go.Vx
open Go.Proofs Classical
open Go.Sort
theorem keys_ints {l : List (Value × Value)} (h : MapOk IntKey l) : ∃ ks : List Int, l.map Prod.fst = ints ks ∧ ks.Nodup := by
 have h1 : ∀ (l : List (Value × Value)), (∀ p ∈ l, IntKey p.1) → ∃ ks : List Int, l.map Prod.fst = ints ks := fun l => by
  induction l with
  | nil => intro _; exact ⟨[], rfl⟩
  | cons p l ih =>
   intro h
   have w_ := ih fun q hq => h q (by simp [hq])
   obtain ⟨ks, hks⟩ := w_
   have w_ := h p (by simp)
   obtain ⟨n, hn⟩ := w_
   exact ⟨n :: ks, by rw [List.map_cons, hks, hn]; rfl⟩
 have w_ := h1 l h.keys
 obtain ⟨ks, hks⟩ := w_
 refine ⟨ks, hks, ?_⟩
 have hn := h.nodup
 rw [hks, ints] at hn
 exact List.Pairwise.of_map (S := fun a b => a ≠ b) _ (fun a b hab e => hab (by rw [e])) hn
theorem mget_keys {l : List (Value × Value)} {ks : List Int} (h : l.map Prod.fst = ints ks) (n : Int) : (mget l (.int .i64 n)).isSome ↔ n ∈ ks := by
 have e : n ∈ ks ↔ Value.int .i64 n ∈ l.map Prod.fst := by
  rw [h, ints, List.mem_map]
  exact ⟨fun k => ⟨n, k, rfl⟩, fun ⟨m, k, e⟩ => by cases e; exact k⟩
 rw [e]
 clear e h
 induction l with
 | nil => simp [mget]
 | cons p l ih =>
  obtain ⟨a, v⟩ := p
  rw [mget]
  by_cases h : a = .int .i64 n
  ·rw [if_pos h]; simp [h]
  ·rw [if_neg h]
   refine ih.trans ?_
   simp only [List.map_cons, List.mem_cons]
   exact ⟨.inr, fun k => k.elim (fun e => absurd e.symm h) id⟩
theorem nodup_len {N : Nat} {l : List Nat} (h : l.Nodup) (hb : ∀ j ∈ l, j < N) : l.length ≤ N := by
 have h1 : (l.map fun j : Nat => (j : Int)).Nodup := List.Pairwise.map (S := fun a b => a ≠ b) _ (fun a b hab e => hab (by omega)) h
 have := nodup_range (N := N) h1 fun n hn => by
  have w_ := List.mem_map.1 hn
  obtain ⟨j, hj, rfl⟩ := w_
  have := hb j hj; omega
 rwa [List.length_map] at this
theorem ints_own : ∀ l : List Int, OwnRows 1 (l.map D.i) (ints l) Mem.nil
 | [] => OwnRows.nil 1
 | n :: l => ⟨by
   have := (ints_own l).own
   exact OwnS.int this, by
   intro x hx
   have w_ := List.mem_map.1 hx
   obtain ⟨m, _, rfl⟩ := w_
   rfl, by simp [ints]⟩
theorem srt_lt (D : List Int) (h : D.Nodup) : (D.mergeSort fun x y => decide (x ≤ y)).Pairwise (· < ·) := by
 have h1 := List.pairwise_mergeSort (le := fun x y : Int => decide (x ≤ y)) (fun a b c h1 h2 => by simp at *; omega) (fun a b => by simp; omega) D
 have h2 : (D.mergeSort fun x y => decide (x ≤ y)).Nodup := ((List.mergeSort_perm D _).nodup_iff).2 h
 rw [List.nodup_iff_pairwise_ne] at h2
 exact List.Pairwise.imp (fun ⟨a, b⟩ => by simp at a; omega) (h1.and h2)
theorem getD_at {ks : List Int} {j : Nat} (h : j < ks.length) : ks[j]? = some (ks.getD j 0) := by
 rw [List.getD_eq_getElem?_getD, List.getElem?_eq_getElem h]; rfl
theorem picked {ks : List Int} (hnd : ks.Nodup) {seen : List Nat} (hsn : seen.Nodup) (hsl : ∀ j ∈ seen, j < ks.length) : (seen.map fun j => ks.getD j 0).Nodup := by
 rw [List.nodup_iff_pairwise_ne, List.pairwise_map]
 rw [List.nodup_iff_pairwise_ne] at hsn
 refine hsn.imp_of_mem fun {a b} ha hb hab e => hab ?_
 have h1 := idx_at hnd (getD_at (hsl a ha))
 have h2 := idx_at hnd (getD_at (hsl b hb))
 rw [e] at h1
 omega
theorem picked_mem {ks : List Int} {seen : List Nat} (hsl : ∀ j ∈ seen, j < ks.length) (hall : ∀ j, j < ks.length → j ∈ seen) (n : Int) : n ∈ (seen.map fun j => ks.getD j 0) ↔ n ∈ ks := by
 rw [List.mem_map]
 constructor
 ·rintro ⟨j, hj, rfl⟩
  exact List.mem_of_getElem? (getD_at (hsl j hj))
 ·intro h
  have w_ := List.mem_iff_getElem?.1 h
  obtain ⟨j, hj⟩ := w_
  have hjl := (List.getElem?_eq_some_iff.1 hj).1
  refine ⟨j, hall j hjl, ?_⟩
  rw [getD_at hjl] at hj
  exact Option.some.inj hj
section
variable {μ h : Mem}
theorem sortedInts_spec {m : Nat} {l : List (Value × Value)} (hm : h m = some (mapO l)) (hk : MapOk IntKey l) (hn : l.length ≤ 1000000) :
  SpecH Try.prog 88 [.map (some m)] μ h fun v μ' h' => h' = h ∧ ∃ xs : List Int, (∀ n, n ∈ xs ↔ (mget l (.int .i64 n)).isSome) ∧ xs.Pairwise (· < ·) ∧ Fresh μ μ' (.sl 1 (xs.map D.i)) v := by
 have w_ := keys_ints hk
 obtain ⟨ks, hks, hnd⟩ := w_
 have hkl : ks.length = l.length := by
  have := congrArg List.length hks
  simpa [ints] using this.symm
 refine SpecH.mk [] Try.func88 (by kernel_rfl) ?_
 intro r5
 refine mlen_intro l hm ?_
 intro ri hmi hoi
 have hne : m ≠ ri := ne_of_none hm hoi
 refine lIn (fun p : List Nat × Option Nat × Nat × List Value => p.2.1 ≠ none ∧ p.1.Nodup ∧ (∀ j ∈ p.1, j < l.length) ∧ p.2.2.2 = ints (p.1.map fun j => ks.getD j 0))
  (fun (seen, b, c, ys) => ⟨[(3, .row 0 b ys.length c), (7, .val (.pointer (some ⟨ri, 0, none⟩)))], [(0, some (.row b c 3 1 ys))], 1, μ, h.set ri (iterO m l.length seen l.length)⟩) (fun p => l.length - p.1.length)
  ([], some r5, 0, []) ⟨by simp, by simp, by simp, rfl⟩ (fun (_, _, _, _) => ⟨rfl, rfl⟩) ⟨⟨rfl, rfl, trivial⟩, ⟨rfl, trivial⟩, rfl, rfl⟩ ?_
 rintro ⟨seen, b, c, ys⟩ ⟨hb, hsn, hsl, hys⟩
 dsimp only at hb hsn hsl hys
 have hslen := nodup_len hsn hsl
 refine next_intro m seen l.length l (Mem.set_at _ _ _) ((Mem.set_ne hne).trans hm) (Nat.le_refl _) (fun hall => ?_) (fun j k v hj hns => ?_)
 rotate_left
 ·have hjl := (List.getElem?_eq_some_iff.1 hj).1
  have hkj : k = .int .i64 (ks.getD j 0) := by
   have h1 : (l.map Prod.fst)[j]? = some k := by simp [hj]
   rw [hks, ints, List.getElem?_map] at h1
   have h2 : j < ks.length := by omega
   rw [List.getElem?_eq_getElem h2] at h1
   simp only [Option.map_some, Option.some.injEq] at h1
   rw [← h1, List.getD_eq_getElem?_getD, List.getElem?_eq_getElem h2]; rfl
  subst hkj
  rw [Mem.set_set]
  refine iIn (fun _ => ?_) (fun h => nomatch h)
  refine ent_intro m l.length seen j l _ v (Mem.set_at _ _ _) ((Mem.set_ne hne).trans hm) hj ?_
  intro r6
  have hyl : ys.length = seen.length := by rw [hys]; simp [ints]
  refine gIn ?_ ?_ fun b' c' hb' => ?_
  ·show (ys.length + 1) * 8 ≤ _; omega
  ·exact Nat.le_trans (m := 100000000) (show ys.length + 1 ≤ _ by omega) (by decide)
  have hsl2 : ∀ i ∈ seen ++ [j], i < l.length := fun i hi => by
   rcases List.mem_append.1 hi with hi | hi
   ·exact hsl i hi
   ·rw [List.mem_singleton] at hi; subst hi; exact hjl
  have hsn2 : (seen ++ [j]).Nodup := by
   rw [List.nodup_append]
   refine ⟨hsn, by simp, fun a ha b hb e => ?_⟩
   rw [List.mem_singleton] at hb
   subst hb; subst e; exact hns ha
  have hs3 := nodup_len hsn2 hsl2
  rw [List.length_append, List.length_singleton] at hs3
  exact ⟨(seen ++ [j], b', c', ys ++ [.int .i64 (ks.getD j 0)]), ⟨by
   dsimp only
   intro e
   have := hb' e
   simp at this, hsn2, hsl2, by dsimp only; rw [List.map_append, ints, List.map_append, hys]; rfl⟩, by dsimp only; rw [List.length_append, List.length_singleton]; omega, ⟨⟨rfl, rfl, trivial⟩, ⟨rfl, trivial⟩, rfl, rfl⟩⟩
 ·refine iIn (fun h => nomatch h) (fun _ => ?_)
  have hp := picked hnd hsn (by rw [hkl]; exact hsl)
  have hpm := picked_mem (by rw [hkl]; exact hsl) (by rw [hkl]; exact hall) (ks := ks) (seen := seen)
  have hDs : (seen.map (fun j => ks.getD j 0)).length = seen.length := by simp
  generalize seen.map (fun j => ks.getD j 0) = D at *
  subst hys
  have w_ := Option.ne_none_iff_exists'.1 hb
  obtain ⟨b0, rfl⟩ := w_
  have hDl : (ints D).length = D.length := by simp [ints]
  refine call_gen [] [0] (fun h => nomatch h) ?_
  intro h' hmem hgiven
  obtain ⟨hb0, hlen, hcap, hone, cs, rfl, hcs, htake⟩ := hgiven
  replace hb0 : (Mem.set h ri (iterO m l.length seen l.length)) b0 = none := hb0
  replace hmem : μ b0 = none := hmem b0 rfl
  obtain ⟨rest, rfl⟩ : ∃ rest, cs = ints D ++ rest := by
   refine ⟨cs.drop ((ints D).length * 1), ?_⟩
   rw [ints_flat] at htake
   conv => lhs; rw [← List.take_append_drop ((ints D).length * 1) cs, htake]
  have hD6 : D.length ≤ 1000000000000 := by omega
  refine own_go (Ints_spec (h0 := h.set ri (iterO m l.length seen l.length)) (r := b0) (ty := 3) (rest := rest) (d := D.toArray) hb0 (by simp [ints]) (by omega)) fun v μ' h'' hle hap hR => ?_
  obtain ⟨rfl, rfl⟩ := hR
  have f1 : (D.toArray.toList.mergeSort fun x y => decide (x ≤ y)).Pairwise (· < ·) := srt_lt D hp
  have f2 : ∀ n, n ∈ (D.toArray.toList.mergeSort fun x y => decide (x ≤ y)) ↔ n ∈ D := fun n => (List.mergeSort_perm D _).mem_iff
  have f3 : (D.toArray.toList.mergeSort fun x y => decide (x ≤ y)).length = D.length := (List.mergeSort_perm D _).length_eq
  generalize (D.toArray.toList.mergeSort fun x y => decide (x ≤ y)) = S at *
  have hbr : b0 ≠ ri := fun e => by subst e; rw [Mem.set_at] at hb0; cases hb0
  have hhb : h b0 = none := by rwa [Mem.set_ne hbr] at hb0
  have hb1 : μ' b0 = none := by
   cases e : μ' b0 with
   | none => rfl
   | some o => have := hap b0 (by simp [e]); rw [RowI, Mem.set_at] at this; cases this
  have hSl : (ints S).length = S.length := by simp [ints]
  refine ret_own ((Mem.nil.set ri (iterO m l.length seen l.length)).set b0 (.cells (List.toArray ([] ++ (S.toArray.toList.map (Value.int .i64) ++ rest))) 3 (0, 0))) h ?_ ⟨rfl, S, fun n => (f2 n).trans ((hpm n).trans (mget_keys hks n).symm), f1, ?_⟩
  ·show Parts (RowI (h.set ri (iterO m l.length seen l.length)) b0 3 rest S.toArray) _ h
   replace hoi : h ri = none := hoi
   intro x
   by_cases h1 : x = b0
   ·subst h1; exact .inl ⟨by rw [RowI, Mem.set_at, Mem.set_at], hhb⟩
   ·by_cases h2 : x = ri
    ·subst h2; exact .inl ⟨by rw [RowI, Mem.set_ne h1, Mem.set_ne h1, Mem.set_at, Mem.set_at], hoi⟩
    ·exact .inr ⟨by rw [RowI, Mem.set_ne h1, Mem.set_ne h2], by rw [Mem.set_ne h1, Mem.set_ne h2]; rfl⟩
  ·have F := Fresh.ofRow (μ := μ) (μ1 := μ) (μ' := μ'.join ((Mem.nil.set ri (iterO m l.length seen l.length)).set b0 (.cells (List.toArray ([] ++ (S.toArray.toList.map (Value.int .i64) ++ rest))) 3 (0, 0)))) (b := some b0) (cap := c) (ints_own S) (fun _ _ h => nomatch h) (fun _ h => absurd rfl h) (Mem.Le.refl _) (hle.trans (Mem.le_join _ _)) (fun r e => by cases e; exact hmem)
    ⟨by omega, fun x hx => by
     have w_ := List.mem_map.1 hx
     obtain ⟨n, _, rfl⟩ := w_
     exact ⟨rfl, by simp [vcells, Value.oneCell']⟩, _, _, by rw [Mem.join_get, hb1, Mem.set_at], by
      simp only [List.length_append, ints, List.length_map] at hcs
      simp [f3]; omega, by rw [ints_flat]; simp [ints]⟩ (Nat.le_trans (m := 1000000) (by omega) (by decide))
   have e : (ints D).length = (ints S).length := by omega
   show Fresh μ _ (.sl 1 (S.map Go.Vx.D.i)) (.slice _ (ints D).length c)
   rw [e]; exact F
end
end Go.Vx
namespace Go.Vx
open Go.Proofs Classical
mutual
def Gl.all : Gl → List Gl
 | .mk k s ts gs => .mk k s ts gs :: Gl.alls gs
def Gl.alls : List Gl → List Gl
 | [] => []
 | g :: r => g.all ++ Gl.alls r
end
theorem Gl.alls_map : ∀ l : List Gl, Gl.alls l = l.flatMap Gl.all
 | [] => rfl
 | g :: r => by simp [Gl.alls, Gl.alls_map r]
theorem Gl.all_eq (g : Gl) : g.all = g :: g.goals.flatMap Gl.all := by
 cases g
 rw [Gl.all, Gl.alls_map]
 rfl
theorem Gl.Sh.all : ∀ (g : Gl), g.Sh → ∀ x ∈ g.all, x.Sh :=
 Gl.ind fun g ih h x hx => by
  rw [Gl.all_eq] at hx
  rcases List.mem_cons.1 hx with rfl | hx
  ·exact h
  ·have w_ := List.mem_flatMap.1 hx
   obtain ⟨y, hy, hx⟩ := w_
   exact ih y hy (h.sub y hy) x hx
noncomputable def Gl.tvars (g : Gl) : List Int := (g.terms.map Tm.toT).flatMap T.vars
noncomputable def Gl.vars (g : Gl) : List Int := g.all.flatMap Gl.tvars
theorem toTs_tm' {xs : List T} : (xs.map T.tm).map Tm.toT = xs := by
 rw [List.map_map]
 exact (List.map_congr_left fun x _ => T.toT_tm x).trans (List.map_id _)
section
variable {μ : Mem}
def KeysInv (rm : Nat) (s : List Int) (h : Mem) : Prop := ∃ r l, h rm = some (.cells #[.map (some r)] 109 (0, 0)) ∧ h r = some (mapO l) ∧ MapOk IntKey l ∧ ∀ n, (mget l (.int .i64 n)).isSome ↔ n ∈ s
theorem Gl.vars_range {g : Gl} (h : g.Sh) : ∀ n ∈ g.vars, 0 ≤ n ∧ n ≤ 100000 := fun n hn => by
 have w_ := List.mem_flatMap.1 hn
 obtain ⟨x, hx, hn⟩ := w_
 have w_ := lift_ok (h.all g x hx).top.tm
 obtain ⟨xs, hxs, hxo⟩ := w_
 rw [Gl.tvars, hxs, toTs_tm'] at hn
 have w_ := List.mem_flatMap.1 hn
 obtain ⟨t, ht, hn⟩ := w_
 exact T.vars_range (hxo t ht).1 n hn
end
end Go.Vx
namespace Go.Vx
open Go.Proofs Classical
section
variable {d e f : List B}
end
section
variable {L M : List (List B)}
theorem LeastOf.pos (h : LeastOf L M) (hL : ∀ d ∈ L, Subst d) : 0 < M.length ↔ 0 < L.length := by
 constructor
 ·intro k
  have w_ := aSo (l := M) (i := 0) k
  obtain ⟨x, hx⟩ := w_
  exact List.length_pos_of_mem ((h.mem x).1 (mAt hx)).1
 ·intro k
  have w_ := aSo (l := L) (i := 0) k
  obtain ⟨x, hx⟩ := w_
  have w_ := h.below hL (mAt hx)
  obtain ⟨m, hm, _⟩ := w_
  exact List.length_pos_of_mem hm
end
end Go.Vx
namespace Go.Vx
open Go.Proofs Classical
theorem T.lvs_pos : ∀ t : T, 1 ≤ t.lvs
 | .pair a b => by
  have := a.lvs_pos
  simp only [T.lvs]; omega
 | .nil => Nat.le_refl _
 | .var _ => Nat.le_refl _
 | .sym _ => Nat.le_refl _
 | .num _ => Nat.le_refl _
theorem nodup_le3 {α : Type} : ∀ {a b : List α}, a.Nodup → (∀ x ∈ a, x ∈ b) → a.length ≤ b.length
 | [], _, _, _ => Nat.zero_le _
 | x :: a, b, hn, h => by
  have w_ := List.nodup_cons.1 hn
  obtain ⟨h1, h2⟩ := w_
  have w_ := List.append_of_mem (h x (by simp))
  obtain ⟨s, t, rfl⟩ := w_
  have := nodup_le3 (a := a) (b := s ++ t) h2 fun y hy => by
   have h3 := h y (by simp [hy])
   rcases List.mem_append.1 h3 with h3 | h3
   ·simp [h3]
   ·rcases List.mem_cons.1 h3 with rfl | h3
    ·exact absurd hy h1
    ·simp [h3]
  simp only [List.length_append, List.length_cons] at *
  omega
end Go.Vx
namespace Go.Vx
open Go.Proofs Classical
noncomputable def ordV (x : T) : List Int := ordAll [] x.vars
noncomputable def idxW (x : T) (n : Int) : Int := ((ordV x).idxOf n : Nat)
noncomputable def canon1 (x : T) : T := x.subst (canonF (ordV x))
theorem canon_one (x : T) : canon [x] = [canon1 x] := by simp [canon, canon1, ordV]
def ren (r : Int → Int) (n : Int) : T := .var (r n)
def InjOn (r : Int → Int) (l : List Int) : Prop := ∀ a ∈ l, ∀ b ∈ l, r a = r b → a = b
theorem vars_ren (r : Int → Int) : ∀ x : T, (x.ap (ren r)).vars = x.vars.map r
 | .pair a b => by
  show (a.ap (ren r)).vars ++ (b.ap (ren r)).vars = (a.vars ++ b.vars).map r
  rw [vars_ren r a, vars_ren r b, List.map_append]
 | .var _ => rfl
 | .nil => rfl
 | .sym _ => rfl
 | .num _ => rfl
theorem canon1_ren (x : T) : canon1 x = x.ap (ren (idxW x)) := by
 rw [canon1, subst_ap]
 refine T.ap_congr fun n hn => ?_
 have hm : n ∈ ordV x := (ordAll_mem _ _ _).2 (.inl (T.occ_vars.1 hn))
 show (canonF (ordV x) n).getD (.var n) = .var (idxW x n)
 rw [canonF, if_pos hm]
 rfl
theorem ord_map {r : Int → Int} {acc : List Int} {n : Int} (h : ∀ a ∈ acc, r a = r n → a = n) : ord (acc.map r) (r n) = (ord acc n).map r := by
 unfold ord
 by_cases k : n ∈ acc
 ·rw [if_pos k, if_pos (List.mem_map.2 ⟨n, k, rfl⟩)]
 ·rw [if_neg k, if_neg fun e => by
   have w_ := List.mem_map.1 e
   obtain ⟨a, ha, e⟩ := w_
   exact k (h a ha e ▸ ha), List.map_append]
  rfl
theorem ordAll_map {r : Int → Int} : ∀ (l acc : List Int), InjOn r (acc ++ l) → ordAll (acc.map r) (l.map r) = (ordAll acc l).map r
 | [], _, _ => rfl
 | n :: l, acc, h => by
  show ordAll (ord (acc.map r) (r n)) (l.map r) = (ordAll (ord acc n) l).map r
  rw [ord_map fun a ha e => h a (by simp [ha]) n (by simp) e]
  refine ordAll_map l _ fun a ha b hb e => h a ?_ b ?_ e
  ·rcases List.mem_append.1 ha with k | k
   ·rcases (ord_mem _ _ _).1 k with k | k
    ·simp [k]
    ·simp [k]
   ·simp [k]
  ·rcases List.mem_append.1 hb with k | k
   ·rcases (ord_mem _ _ _).1 k with k | k
    ·simp [k]
    ·simp [k]
   ·simp [k]
theorem idxOf_map {r : Int → Int} {n : Int} : ∀ {l : List Int}, (∀ a ∈ l, r a = r n → a = n) → (l.map r).idxOf (r n) = l.idxOf n
 | [], _ => rfl
 | a :: l, h => by
  rw [List.map_cons, List.idxOf_cons, List.idxOf_cons, idxOf_map fun b hb => h b (by simp [hb])]
  by_cases e : a = n
  ·subst e; simp
  ·have e2 : ¬ r a = r n := fun k => e (h a (by simp) k)
   have b1 : (a == n) = false := by simpa using e
   have b2 : (r a == r n) = false := by simpa using e2
   rw [b1, b2]
theorem canon1_inv {x : T} {r : Int → Int} (h : InjOn r x.vars) : canon1 (x.ap (ren r)) = canon1 x := by
 rw [canon1_ren, canon1_ren, T.ap_ap]
 refine T.ap_congr fun n hn => ?_
 have hn := T.occ_vars.1 hn
 show T.var (idxW (x.ap (ren r)) (r n)) = T.var (idxW x n)
 have e : ordV (x.ap (ren r)) = (ordV x).map r := by
  rw [ordV, vars_ren]
  exact ordAll_map x.vars [] h
 rw [idxW, e, idxOf_map fun a ha k => h a (by simpa [ordV, ordAll_mem] using ha) n hn k]
 rfl
theorem idx_get : ∀ {l : List Int} {n : Int}, n ∈ l → l[l.idxOf n]? = some n
 | a :: l, n, h => by
  by_cases e : a = n
  ·subst e; simp
  ·rw [List.idxOf_cons]
   have : (a == n) = false := by simp [e]
   rw [this]
   exact idx_get (List.mem_of_ne_of_mem (fun k => e k.symm) h)
theorem idxW_inj (x : T) : InjOn (idxW x) x.vars := fun a ha b hb e => by
 have h1 := idx_get ((ordAll_mem x.vars [] a).2 (.inl ha))
 have h2 := idx_get ((ordAll_mem x.vars [] b).2 (.inl hb))
 have e : ((ordV x).idxOf a : Int) = (ordV x).idxOf b := e
 have e : (ordV x).idxOf a = (ordV x).idxOf b := by omega
 have e : (ordAll [] x.vars).idxOf a = (ordAll [] x.vars).idxOf b := e
 rw [e, h2] at h1
 exact (Option.some.inj h1).symm
theorem canon1_again (x : T) : canon1 (canon1 x) = canon1 x := by
 conv => lhs; rw [canon1_ren x]
 exact canon1_inv (idxW_inj x)
theorem canon1_vars (x : T) : (canon1 x).vars = x.vars.map (idxW x) := by rw [canon1_ren, vars_ren]
theorem canon1_low (x : T) : ∀ n ∈ (canon1 x).vars, 0 ≤ n ∧ n < (ordV x).length := fun n hn => by
 rw [canon1_vars] at hn
 have w_ := List.mem_map.1 hn
 obtain ⟨m, hm, rfl⟩ := w_
 have h1 := (List.getElem?_eq_some_iff.1 (idx_get ((ordAll_mem x.vars [] m).2 (.inl hm)))).1
 show (0 : Int) ≤ ((ordV x).idxOf m : Nat) ∧ (((ordV x).idxOf m : Nat) : Int) < (ordV x).length
 have h1 : (ordV x).idxOf m < (ordV x).length := h1
 omega
theorem canon1_all (x : T) {i : Nat} (hi : i < (ordV x).length) : (i : Int) ∈ (canon1 x).vars := by
 rw [canon1_vars]
 have w_ := aSo hi
 obtain ⟨m, hm⟩ := w_
 have hmem : m ∈ x.vars := by
  have := (ordAll_mem x.vars [] m).1 (mAt hm)
  simpa using this
 exact List.mem_map.2 ⟨m, hmem, congrArg Int.ofNat (idx_at (ordAll_nodup x.vars (by simp)) hm)⟩
def Inst (t p : T) : Prop := ∃ s, p.ap s = t
theorem variant_iff {a b : T} : (Inst a b ∧ Inst b a) ↔ canon1 a = canon1 b := by
 constructor
 ·rintro ⟨⟨s, hs⟩, ⟨t, ht⟩⟩
  have hfix : b.ap (fun n => (s n).ap t) = b := by rw [← T.ap_ap, hs, ht]
  have hk := T.ap_fix hfix
  have hvar : ∀ n, b.occ n → ∃ m, s n = .var m ∧ t m = .var n := fun n hn => by
   have h := hk n hn
   cases e : s n with
   | var m => rw [e] at h; exact ⟨m, rfl, h⟩
   | nil => rw [e] at h; cases h
   | sym _ => rw [e] at h; cases h
   | num _ => rw [e] at h; cases h
   | pair _ _ => rw [e] at h; cases h
  have hr : ∃ r : Int → Int, ∀ n, b.occ n → s n = .var (r n) := ⟨fun n => if h : b.occ n then (hvar n h).choose else n, fun n hn => by
   dsimp only
   rw [dif_pos hn]
   exact (hvar n hn).choose_spec.1⟩
  obtain ⟨r, hr⟩ := hr
  have e : a = b.ap (ren r) := by
   rw [← hs]
   exact T.ap_congr fun n hn => hr n hn
  rw [e]
  refine canon1_inv fun m hm n hn k => ?_
  have hm := T.occ_vars.2 hm
  have hn := T.occ_vars.2 hn
  obtain ⟨m', e1, e2⟩ := hvar m hm
  obtain ⟨n', e3, e4⟩ := hvar n hn
  rw [hr m hm] at e1
  rw [hr n hn] at e3
  cases e1; cases e3
  rw [k] at e2
  rw [e2] at e4
  exact T.var.inj e4
 ·have half : ∀ {a b : T}, canon1 a = canon1 b → Inst a b := fun {a b} h => by
   refine ⟨fun n => .var ((ordV a).getD (idxW b n).toNat 0), ?_⟩
   have h1 : (canon1 a).ap (ren fun k => (ordV a).getD k.toNat 0) = a := by
    rw [canon1_ren, T.ap_ap]
    conv => rhs; rw [← T.ap_var a]
    refine T.ap_congr fun n hn => ?_
    show T.var ((ordV a).getD (idxW a n).toNat 0) = .var n
    have h2 := idx_get ((ordAll_mem a.vars [] n).2 (.inl (T.occ_vars.1 hn)))
    rw [idxW, Int.toNat_natCast, List.getD_eq_getElem?_getD]
    have h2 : (ordV a)[(ordV a).idxOf n]? = some n := h2
    rw [h2]; rfl
   rw [h, canon1_ren, T.ap_ap] at h1
   exact h1
  exact fun h => ⟨half h, half h.symm⟩
theorem ordAll_ext : ∀ (l acc : List Int), ∃ r, ordAll acc l = acc ++ r
 | [], acc => ⟨[], by simp [ordAll]⟩
 | n :: l, acc => by
  have w_ := ordAll_ext l (ord acc n)
  obtain ⟨r, hr⟩ := w_
  have e : ordAll acc (n :: l) = ordAll (ord acc n) l := rfl
  rw [e, hr]
  unfold ord
  split
  ·exact ⟨r, rfl⟩
  ·exact ⟨n :: r, by simp⟩
theorem idxOf_ext {n : Int} : ∀ {l r : List Int}, n ∈ l → (l ++ r).idxOf n = l.idxOf n
 | a :: l, r, h => by
  rw [List.cons_append, List.idxOf_cons, List.idxOf_cons]
  by_cases e : a = n
  ·subst e; simp
  ·have b1 : (a == n) = false := by simpa using e
   rw [b1, idxOf_ext (List.mem_of_ne_of_mem (fun k => e k.symm) h)]
theorem canon_first (x : T) (ys : List T) : ∃ zs, canon (x :: ys) = canon1 x :: zs := by
 refine ⟨ys.map (·.subst (canonF (ordAll [] ((x :: ys).flatMap T.vars)))), ?_⟩
 rw [canon, List.map_cons]
 refine congrArg (fun z => z :: _) ?_
 rw [canon1, subst_ap, subst_ap]
 refine T.ap_congr fun n hn => ?_
 have hm : n ∈ ordV x := (ordAll_mem _ _ _).2 (.inl (T.occ_vars.1 hn))
 have e : ordAll [] ((x :: ys).flatMap T.vars) = ordAll (ordV x) (ys.flatMap T.vars) := by
  rw [List.flatMap_cons, ordAll_append]; rfl
 have w_ := ordAll_ext (ys.flatMap T.vars) (ordV x)
 obtain ⟨r, hr⟩ := w_
 rw [e, hr, canonF, canonF, if_pos hm, if_pos (List.mem_append_left _ hm), idxOf_ext hm]
theorem shift_ren (k : Int) (x : T) : x.subst (fun v => some (.var (v + k))) = x.ap (ren fun v => v + k) := by
 rw [subst_ap]; rfl
theorem shift_canon (k : Int) (x : T) : canon1 (x.ap (ren fun v => v + k)) = canon1 x := canon1_inv fun a _ b _ e => by
 have e : a + k = b + k := e
 omega
theorem ordV_len {x : T} {l : List Int} (hn : l.Nodup) (hm : ∀ n, n ∈ l ↔ n ∈ x.vars) : (ordV x).length = l.length := by
 have h1 := nodup_le3 (a := ordV x) (b := l) (ordAll_nodup x.vars (by simp)) fun n h => (hm n).2 (by simpa [ordV, ordAll_mem] using h)
 have h2 := nodup_le3 (a := l) (b := ordV x) hn fun n h => by
  have := (hm n).1 h
  simpa [ordV, ordAll_mem] using this
 omega
theorem canon1_bound (x : T) (m : Int) (h0 : 0 ≤ m) (h1 : ∀ n ∈ (canon1 x).vars, n < m) (h2 : m = 0 ∨ m - 1 ∈ (canon1 x).vars) : m = (ordV x).length := by
 rcases h2 with h2 | h2
 ·subst h2
  cases e : (ordV x).length with
  | zero => rfl
  | succ k =>
   have := h1 _ (canon1_all x (i := 0) (by omega))
   omega
 ·have h3 := (canon1_low x _ h2).2
  by_cases k : m.toNat < (ordV x).length
  ·have := h1 _ (canon1_all x k)
   omega
  ·omega
end Go.Vx
namespace Go.Vx
open Go.Proofs Classical
theorem asF_out {x : List B} (h : Srt x) (hp : Proper x) {n : Int} (hn : ∀ b ∈ x, b.var ≠ n) : asF x n = .var n :=
 Classical.byContradiction fun k => by
  have w_ := (asF_bound h hp).1 k
  obtain ⟨b, hb, e⟩ := w_
  exact hn b hb e
end Go.Vx
namespace Go.Vx
open Go.Proofs Classical
theorem lvB_4 : lvB 4 = 2 := by rw [lvB, if_pos (by decide), lvB, if_neg (by decide)]
end Go.Vx
namespace Go.Vx
open Go.Proofs Classical
open Go.ChangeShapes Go.WideShapes Go.ChangeAt Go.RowKit
section
variable {μ : Mem}
theorem MakeNum_spec {base : Option Addr} {n cap : Nat} (hb : Bytes μ base n) (m : Int) (hm : m ≤ 1000000) :
  Spec Try.prog 13 [.slice base n cap, .int .i64 m] μ fun v μ' => μ' = μ ∧ ∃ k : Nat, v = .int .i64 k ∧ k < 65536 := by
 refine Spec.mk Try.func13 (by kernel_rfl) ?_
 refine cOw (l43New_spec hb m hm) fun v μ1 h1 hle1 hap1 hR => ?_
 obtain ⟨e, r, rfl, ho, hc1⟩ := hR
 obtain rfl := e.symm
 refine cOw (l01Byte_spec hc1.at) fun v μ1 h2 hle2 hap2 hR => ?_
 obtain ⟨e, hc2, k, rfl, hk⟩ := hR
 obtain rfl := e.symm
 refine num64 (by omega) (by omega) ?_
 refine cOw (l01Byte_spec hc2.at) fun v μ1 h3 hle3 hap3 hR => ?_
 obtain ⟨e, hc3, k2, rfl, hk2⟩ := hR
 obtain rfl := e.symm
 refine num64 (by omega) (by omega) ?_
 exact rPl ⟨rfl, k * 256 + k2, by congr 1, by omega⟩
theorem MakeSize_spec {base : Option Addr} {n cap : Nat} (hb : Bytes μ base n) (m lo hi : Int) (hm : m ≤ 1000000) (h0 : 0 ≤ lo) (h1 : lo ≤ hi) (h2 : hi ≤ 1000) :
  Spec Try.prog 15 [.slice base n cap, .int .i64 m, .int .i64 lo, .int .i64 hi] μ fun v μ' => μ' = μ ∧ ∃ k : Int, v = .int .i64 k ∧ lo ≤ k ∧ k ≤ hi := by
 refine Spec.mk Try.func15 (by kernel_rfl) ?_
 refine cOw (l43New_spec hb m hm) fun v μ1 h1 hle1 hap1 hR => ?_
 obtain ⟨e, r, rfl, ho, hc1⟩ := hR
 obtain rfl := e.symm
 refine num64 (by omega) (by omega) (num64 (by omega) (by omega) ?_)
 refine cOw (l01Below_spec hc1.at _) fun v μ1 h2 hle2 hap2 hR => ?_
 obtain ⟨e, hc2, k, rfl, hk, hk2, _⟩ := hR
 obtain rfl := e.symm
 have := hk2 (by omega)
 refine num64 (by omega) (by omega) ?_
 exact rPl ⟨rfl, _, rfl, by omega, by omega⟩
end
end Go.Vx
namespace Go.Vx
open Go.Proofs Classical
section
variable {μ : Mem}
theorem MakeTerm_spec {base : Option Addr} {n cap : Nat} (hb : Bytes μ base n) (m : Int) (hm : m ≤ 1000000) (size vars : Nat) (hs : size ≤ 1000) (hv : vars ≤ 1000) :
  Spec Try.prog 11 [.slice base n cap, .int .i64 m, .int .i64 size, .int .i64 vars] μ fun v μ' => ∃ t : T, RepV μ' t.tm.d v ∧ Drawn (lvB size) vars t := by
 refine Spec.mk Try.func11 (by kernel_rfl) ?_
 intro r1
 refine cOw (l43New_spec hb m hm) fun v μ1 h1 hle1 hap1 hR => ?_
 obtain ⟨e, r, rfl, ho, hc1⟩ := hR
 obtain rfl := e.symm
 refine cOw (l02Draw_spec vars hv size hs hc1.at) fun v μ2 h2 hle2 hap2 hR => ?_
 obtain ⟨hc2, t, ht, hd⟩ := hR
 have w_ := Tm.invV ht
 obtain ⟨p, rfl⟩ := w_
 exact rPl ⟨t, ht, hd⟩
theorem l05Alike_spec (vars : Nat) (hv : vars ≤ 1000) : ∀ (x : T) {μ h : Mem} {r : Nat} {v : Value}, RepV μ x.tm.d v → Drawn x.lvs vars x → Cur μ h r h →
  SpecH Try.prog 55 [.pointer (some ⟨r, 0, none⟩), v, .int .i64 vars] μ h fun v μ' h' => DrawnAt h r (2 * x.lvs) vars v μ' h' := by
 intro x
 induction x with
 | pair a b iha ihb =>
  intro μ h r v hx hd hc
  have w_ := Tm.inv hx
  obtain ⟨base', cap', rfl, hsa⟩ := w_
  have w_ := T.parts hsa
  obtain ⟨ad, ad', p, p', h1, h2, hra, hrb⟩ := w_
  refine SpecH.mk [] Try.func55 (by kernel_rfl) ?_
  intro r1 r2
  refine cOw (l01Once_spec hc 6) fun v μ1 g1 hle1 hap1 hR => ?_
  obtain ⟨e, hc1, c, rfl⟩ := hR
  obtain rfl := e.symm
  refine iIn (fun hb => ?_) (fun hb => ?_)
  ·refine cOw (l02Draw_spec vars hv 4 (by decide) hc1.at) fun v μ2 g2 hle2 hap2 hR => ?_
   obtain ⟨hc2, t, ht, hd2⟩ := hR
   have w_ := Tm.invV ht
   obtain ⟨q, rfl⟩ := w_
   refine rPl ⟨hc1.trans hc2, t, ht, hd2.mono ?_⟩
   rw [lvB_4]
   have := T.lvs_pos
   refine Nat.le_trans (m := 2 * 1) (by decide) (Nat.mul_le_mul_left 2 (T.lvs_pos _))
  ·refine ifd (fun h4 => ?_) (fun h4 => absurd rfl h4)
   have hda : Drawn a.lvs vars a := ⟨hd.good.1, fun n hn => hd.low n (.inl hn), Nat.le_refl _⟩
   have hdb : Drawn b.lvs vars b := ⟨hd.good.2, fun n hn => hd.low n (.inr hn), Nat.le_refl _⟩
   refine eIn h1 ?_
   refine cOw (iha hra hda hc1.at) fun v μ2 g2 hle2 hap2 hR => ?_
   obtain ⟨hc2, a', ha, hda'⟩ := hR
   have w_ := Tm.invV ha
   obtain ⟨q, rfl⟩ := w_
   intro r3
   refine eIn (h2.mono hle2) ?_
   refine cOw (ihb (hrb.mono hle2) hdb hc2.at) fun v μ3 g3 hle3 hap3 hR => ?_
   obtain ⟨hc3, b', hb', hdb'⟩ := hR
   refine cPl (l02Pair_spec (ha.mono hle3) hb') fun v μ4 hle4 hR => ?_
   have w_ := Tm.invV hR
   obtain ⟨q, rfl⟩ := w_
   refine rPl ⟨(hc1.trans (hc2.trans hc3)).mono hle4, .pair a' b', hR, ?_⟩
   have e : 2 * (T.pair a b).lvs = 2 * a.lvs + 2 * b.lvs := by simp only [T.lvs]; omega
   rw [e]
   exact hda'.pair hdb'
 | _ =>
  intro μ h r v hx hd hc
  have hx0 := hx
  have w_ := Tm.invV hx
  obtain ⟨p, rfl⟩ := w_
  refine SpecH.mk [] Try.func55 (by kernel_rfl) ?_
  intro r1 r2
  refine cOw (l01Once_spec hc 6) fun v μ1 g1 hle1 hap1 hR => ?_
  obtain ⟨e, hc1, c, rfl⟩ := hR
  obtain rfl := e.symm
  refine iIn (fun hb => ?_) (fun hb => ?_)
  ·refine cOw (l02Draw_spec vars hv 4 (by decide) hc1.at) fun v μ2 g2 hle2 hap2 hR => ?_
   obtain ⟨hc2, t, ht, hd2⟩ := hR
   have w_ := Tm.invV ht
   obtain ⟨q, rfl⟩ := w_
   refine rPl ⟨hc1.trans hc2, t, ht, hd2.mono ?_⟩
   rw [lvB_4]
   have := T.lvs_pos
   refine Nat.le_trans (m := 2 * 1) (by decide) (Nat.mul_le_mul_left 2 (T.lvs_pos _))
  ·refine ifd (fun h4 => absurd h4 (by simp [T.tm, Tm.kind])) (fun h4 => ?_)
   exact rPl ⟨hc1, _, hx, hd.mono (by omega)⟩
theorem MakeAlike_spec {base : Option Addr} {n cap : Nat} (hb : Bytes μ base n) (m : Int) (hm : m ≤ 1000000) (vars : Nat) (hv : vars ≤ 1000) {x : T} {k : Nat} {v : Value} (hx : RepV μ x.tm.d v) (hd : Drawn k vars x) :
  Spec Try.prog 12 [.slice base n cap, .int .i64 m, v, .int .i64 vars] μ fun v μ' => ∃ t : T, RepV μ' t.tm.d v ∧ Drawn (2 * k) vars t := by
 have w_ := Tm.invV hx
 obtain ⟨p, rfl⟩ := w_
 refine Spec.mk Try.func12 (by kernel_rfl) ?_
 intro r1 r2
 refine cOw (l43New_spec hb m hm) fun v μ1 h1 hle1 hap1 hR => ?_
 obtain ⟨e, r, rfl, ho, hc1⟩ := hR
 obtain rfl := e.symm
 refine cOw (l05Alike_spec vars hv x hx ⟨hd.good, hd.low, Nat.le_refl _⟩ hc1.at) fun v μ2 h2 hle2 hap2 hR => ?_
 obtain ⟨hc2, t, ht, hd2⟩ := hR
 have w_ := Tm.invV ht
 obtain ⟨p, rfl⟩ := w_
 exact rPl ⟨t, ht, hd2.mono (Nat.mul_le_mul_left 2 hd.lvs)⟩
theorem MakeSubst_spec {base : Option Addr} {n cap : Nat} (hb : Bytes μ base n) (m : Int) (hm : m ≤ 1000000) :
  Spec Try.prog 37 [.slice base n cap, .int .i64 m] μ fun v μ' => ∃ s : List B, DSub 4 8 4 4 s ∧ RepV μ' (.sl 5 ((s.map B.bd).map Bd.d)) v := by
 refine Spec.mk Try.func37 (by kernel_rfl) ?_
 refine cOw (l43New_spec hb m hm) fun v μ1 h1 hle1 hap1 hR => ?_
 obtain ⟨e, r, rfl, ho, hc1⟩ := hR
 obtain rfl := e.symm
 refine cOw (l04Draw_spec hc1.at) fun v μ2 h2 hle2 hap2 hR => ?_
 obtain ⟨hc2, s, hs, hr⟩ := hR
 exact rPl ⟨s, hs, hr⟩
end
end Go.Vx
namespace Go.Vx
open Go.Proofs Classical
theorem T.ext_args {x y : T} (h1 : x.tm.kind = y.tm.kind) (h2 : x.tm.num = y.tm.num) (h3 : x.tm.name = y.tm.name) (h4 : x.args = y.args) : x = y := by
 cases x <;> cases y <;> simp_all [T.tm, Tm.kind, Tm.num, Tm.name, T.args]
theorem list_eq_of {α : Type} {l m : List α} (hl : l.length = m.length) (h : ∀ (j : Nat) x y, l[j]? = some x → m[j]? = some y → x = y) : l = m :=
 List.ext_getElem? fun j => by
  rcases Nat.lt_or_ge j l.length with k | k
  ·have w_ := aSo (l := l) (i := j) k
   obtain ⟨x, hx⟩ := w_
   have w_ := aSo (l := m) (i := j) (by omega)
   obtain ⟨y, hy⟩ := w_
   rw [hx, hy, h j x y hx hy]
  ·rw [List.getElem?_eq_none k, List.getElem?_eq_none (by omega)]
section
variable {μ : Mem}
theorem same_spec : ∀ (x y : T) {v w : Value}, RepV μ x.tm.d v → RepV μ y.tm.d w → Gives Try.prog 17 [v, w] μ (.bool (decide (x = y))) :=
 T.ind fun x ih y v w hv hw => by
  have w_ := T.inv hv
  obtain ⟨base, cap, rfl, hsl⟩ := w_
  have w_ := T.inv hw
  obtain ⟨base2, cap2, rfl, hsl2⟩ := w_
  have hn := maxLen_le hsl.max
  refine Spec.mk Try.func17 (by kernel_rfl) ?_
  intro r1 r2
  refine ifnd (fun h1 => rGv (isF fun e => h1 (by rw [e])) rfl) (fun h1 => ?_)
  refine ifnd (fun h2 => rGv (isF fun e => h2 (by rw [e])) rfl) (fun h2 => ?_)
  refine ifnd (fun h3 => rGv (isF fun e => h3 (by rw [e])) rfl) (fun h3 => ?_)
  refine ifnd (fun h4 => rGv (isF fun e => h4 (by rw [e])) rfl) (fun h4 => ?_)
  have h4 : x.args.length = y.args.length := by omega
  refine lIn (fun i : Nat => i ≤ x.args.length ∧ ∀ j a b, j < i → x.args[j]? = some a → y.args[j]? = some b → a = b)
   (fun i => ⟨[(3, .loc 1 r2 0), (36, .val (.slice base x.args.length cap)), (37, .val (.int .i64 x.args.length)), (38, .val (.int .i64 i))], [(1, some (.cells r2 [.val (.int .i64 y.tm.kind), .val (.int .i64 y.tm.num), .val (.string y.tm.name), .val (.slice base2 y.args.length cap2)] 27))], 2, μ, Mem.nil⟩) (fun i => x.args.length - i)
   0 ⟨Nat.zero_le _, fun j a b hj => absurd hj (Nat.not_lt_zero _)⟩ (fun _ => ⟨rfl, rfl⟩) ⟨⟨rfl, rfl, rfl, rfl, trivial⟩, ⟨rfl, trivial⟩, rfl, rfl⟩ ?_
  rintro i ⟨hi, heq⟩
  refine ifd (fun h => ?_) (fun h => ?_)
  ·have w_ := aSo (l := x.args) (i := i) (by omega)
   obtain ⟨a, ha⟩ := w_
   have w_ := aSo (l := y.args) (i := i) (by omega)
   obtain ⟨b, hb⟩ := w_
   have w_ := T.arg hsl ha
   obtain ⟨ad, p, hel, hto⟩ := w_
   have w_ := T.arg hsl2 hb
   obtain ⟨ad2, p2, hel2, hto2⟩ := w_
   refine eIn hel ?_
   intro r3
   refine eIn hel2 ?_
   refine cGv (ih a (mAt ha) b hto hto2) ?_
   refine ifnd (fun h5 => rGv (isF fun e => h5 ?_) rfl) (fun h5 => ?_)
   ·subst e
    rw [ha] at hb
    exact Option.some.inj hb
   ·refine num64 (by omega) (by omega) ⟨i + 1, ⟨by omega, fun j c d hj hc hd => ?_⟩, by omega, ⟨⟨rfl, rfl, rfl, rfl, trivial⟩, ⟨rfl, trivial⟩, rfl, rfl⟩⟩
    rcases Nat.lt_or_ge j i with h6 | h6
    ·exact heq j c d h6 hc hd
    ·obtain rfl : j = i := by omega
     rw [ha] at hc
     rw [hb] at hd
     cases hc; cases hd
     exact h5
  ·obtain rfl : i = x.args.length := by omega
   refine rGv (isT (T.ext_args h1 h2 h3 (list_eq_of h4 fun j a b ha hb => ?_))) rfl
   exact heq j a b (List.getElem?_eq_some_iff.1 ha).1 ha hb
theorem list_spec {x y : List T} {base base2 : Option Addr} {cap cap2 : Nat} (hsl : Sl μ 4 base x.length ((x.map T.tm).map Tm.d)) (hsl2 : Sl μ 4 base2 y.length ((y.map T.tm).map Tm.d)) :
  Gives Try.prog 34 [.slice base x.length cap, .slice base2 y.length cap2] μ (.bool (decide (x = y))) := by
 have hn := maxLen_le hsl.max
 refine Spec.mk Try.func34 (by kernel_rfl) ?_
 refine ifnd (fun h4 => rGv (isF fun e => h4 (by rw [e])) rfl) (fun h4 => ?_)
 have h4 : x.length = y.length := by omega
 refine lIn (fun i : Nat => i ≤ x.length ∧ ∀ j a b, j < i → x[j]? = some a → y[j]? = some b → a = b)
  (fun i => ⟨[(1, .val (.slice base2 y.length cap2)), (12, .val (.slice base x.length cap)), (13, .val (.int .i64 x.length)), (14, .val (.int .i64 i))], [], 0, μ, Mem.nil⟩) (fun i => x.length - i)
  0 ⟨Nat.zero_le _, fun j a b hj => absurd hj (Nat.not_lt_zero _)⟩ (fun _ => ⟨rfl, rfl⟩) ⟨⟨rfl, rfl, rfl, rfl, trivial⟩, trivial, rfl, rfl⟩ ?_
 rintro i ⟨hi, heq⟩
 refine ifd (fun h => ?_) (fun h => ?_)
 rotate_left
 ·obtain rfl : i = x.length := by omega
  refine rGv (isT (list_eq_of h4 fun j a b ha hb => ?_)) rfl
  exact heq j a b (List.getElem?_eq_some_iff.1 ha).1 ha hb
 have w_ := aSo (l := x) (i := i) (by omega)
 obtain ⟨a, ha⟩ := w_
 have w_ := aSo (l := y) (i := i) (by omega)
 obtain ⟨b, hb⟩ := w_
 have w_ := Tm.elem (i := i) (t := a.tm) hsl (by simp [ha])
 obtain ⟨ad, p, hel, hto⟩ := w_
 have w_ := Tm.elem (i := i) (t := b.tm) hsl2 (by simp [hb])
 obtain ⟨ad2, p2, hel2, hto2⟩ := w_
 refine eIn hel ?_
 intro r3
 refine eIn hel2 ?_
 refine cGv (same_spec a b hto hto2) ?_
 refine ifnd (fun h5 => rGv (isF fun e => h5 ?_) rfl) (fun h5 => ?_)
 ·subst e
  rw [ha] at hb
  exact Option.some.inj hb
 ·refine num64 (by omega) (by omega) ⟨i + 1, ⟨by omega, fun j c d hj hc hd => ?_⟩, by omega, ⟨⟨rfl, rfl, rfl, rfl, trivial⟩, trivial, rfl, rfl⟩⟩
  rcases Nat.lt_or_ge j i with h6 | h6
  ·exact heq j c d h6 hc hd
  ·obtain rfl : j = i := by omega
   rw [ha] at hc
   rw [hb] at hd
   cases hc; cases hd
   exact h5
theorem MakeValue_spec {bs : List B} {base : Option Addr} {cap : Nat} {x : T} {v : Value} (hsl : Sl μ 5 base bs.length ((bs.map B.bd).map Bd.d)) (hv : RepV μ x.tm.d v) :
  Spec Try.prog 14 [v, .slice base bs.length cap] μ fun v μ' => RepV μ' (x.ap (asF bs)).tm.d v := by
 have w_ := Tm.invV hv
 obtain ⟨p, rfl⟩ := w_
 refine Spec.mk Try.func14 (by kernel_rfl) ?_
 intro r1 r2
 refine cPl (l04Put_spec x hsl hv) fun v1 μ1 hle1 hR => ?_
 refine cPl (l02Copy_spec _ hR) fun v2 μ2 hle2 hR2 => ?_
 have w_ := Tm.invV hR2
 obtain ⟨q, rfl⟩ := w_
 refine rPl ?_
 rw [← subst_asF]
 exact hR2
end
end Go.Vx
namespace Go.Vx
open Go.Proofs Classical
theorem GVals.take {n k : Nat} {g : List B} (h : GVals n k g) {m : Nat} (hm : m ≤ n) : GVals m k (g.take m) := by
 refine ⟨by rw [List.length_take, h.len]; omega, fun i b hb => ?_⟩
 have hi := (List.getElem?_eq_some_iff.1 hb).1
 rw [List.length_take] at hi
 rw [List.getElem?_take_of_lt (by omega)] at hb
 exact h.get i b hb
theorem T.vars_lvs : ∀ t : T, t.vars.length ≤ t.lvs
 | .pair a b => by
  have h1 := a.vars_lvs
  have h2 := b.vars_lvs
  simp only [T.vars, T.lvs, List.length_append]; omega
 | .nil => Nat.zero_le _
 | .var _ => Nat.le_refl _
 | .sym _ => Nat.zero_le _
 | .num _ => Nat.zero_le _
section
variable {μ : Mem}
end
end Go.Vx
namespace Go.Vx
open Go.Proofs Classical
noncomputable def updT (σ : Int → Option T) (n : Int) (t : T) (m : Int) : Option T := if m = n then some t else σ m
noncomputable def matchP : T → T → (Int → Option T) → Option (Int → Option T)
 | .var n, t, σ => (match σ n with
  | some x => if x = t then some σ else none
  | none => some (updT σ n t))
 | .pair a b, .pair c d, σ => (matchP a c σ).bind (matchP b d)
 | .pair _ _, _, _ => none
 | .nil, t, σ => if T.nil = t then some σ else none
 | .sym s, t, σ => if T.sym s = t then some σ else none
 | .num s, t, σ => if T.num s = t then some σ else none
def ExtT (s : Int → T) (σ : Int → Option T) : Prop := ∀ n x, σ n = some x → s n = x
theorem ext_upd {s : Int → T} {σ : Int → Option T} {n : Int} {t : T} (h : σ n = none) : ExtT s (updT σ n t) ↔ ExtT s σ ∧ s n = t := by
 constructor
 ·intro k
  refine ⟨fun m x hm => k m x ?_, k n t (by rw [updT, if_pos rfl])⟩
  rw [updT, if_neg (fun e => by subst e; rw [h] at hm; cases hm)]
  exact hm
 ·rintro ⟨k1, k2⟩ m x hm
  rw [updT] at hm
  split at hm
  ·rename_i e
   cases hm; subst e; exact k2
  ·exact k1 m x hm
theorem matchP_ext (s : Int → T) : ∀ (p t : T) (σ : Int → Option T), (∀ σ', matchP p t σ = some σ' → (ExtT s σ' ↔ ExtT s σ ∧ p.ap s = t)) ∧ (matchP p t σ = none → ExtT s σ → p.ap s ≠ t)
 | .var n, t, σ => by
  rw [matchP]
  cases e : σ n with
  | some x =>
   dsimp only
   by_cases k : x = t
   ·rw [if_pos k]
    refine ⟨fun σ' h => ?_, fun h => nomatch h⟩
    cases h
    exact ⟨fun q => ⟨q, (q n x e).trans k⟩, fun q => q.1⟩
   ·rw [if_neg k]
    exact ⟨fun σ' h => (nomatch h), fun _ q h => k ((q n x e).symm.trans h)⟩
  | none =>
   dsimp only
   refine ⟨fun σ' h => ?_, fun h => nomatch h⟩
   cases h
   exact ext_upd e
 | .pair a b, .pair c d, σ => by
  rw [matchP]
  have h1 := matchP_ext s a c σ
  cases e : matchP a c σ with
  | none =>
   refine ⟨fun σ' h => (nomatch h), fun _ q h => h1.2 e q ?_⟩
   exact (T.pair.inj h).1
  | some σ1 =>
   have h2 := matchP_ext s b d σ1
   have h3 := h1.1 σ1 e
   rw [Option.bind_some]
   refine ⟨fun σ' h => ?_, fun h q k => ?_⟩
   ·rw [h2.1 σ' h, h3]
    constructor
    ·rintro ⟨⟨k1, k2⟩, k3⟩
     exact ⟨k1, by show T.pair _ _ = _; rw [k2, k3]⟩
    ·rintro ⟨k1, k2⟩
     have k2 := T.pair.inj k2
     exact ⟨⟨k1, k2.1⟩, k2.2⟩
   ·have k := T.pair.inj k
    exact h2.2 h (h3.2 ⟨q, k.1⟩) k.2
 | .pair a b, .nil, σ => ⟨fun _ h => (nomatch h), fun _ _ h => (nomatch h)⟩
 | .pair a b, .var _, σ => ⟨fun _ h => (nomatch h), fun _ _ h => (nomatch h)⟩
 | .pair a b, .sym _, σ => ⟨fun _ h => (nomatch h), fun _ _ h => (nomatch h)⟩
 | .pair a b, .num _, σ => ⟨fun _ h => (nomatch h), fun _ _ h => (nomatch h)⟩
 | .nil, t, σ => by
  rw [matchP]
  split
  ·rename_i k
   exact ⟨fun σ' h => by cases h; exact ⟨fun q => ⟨q, k⟩, fun q => q.1⟩, fun h => nomatch h⟩
  ·rename_i k
   exact ⟨fun σ' h => (nomatch h), fun _ _ h => k h⟩
 | .sym _, t, σ => by
  rw [matchP]
  split
  ·rename_i k
   exact ⟨fun σ' h => by cases h; exact ⟨fun q => ⟨q, k⟩, fun q => q.1⟩, fun h => nomatch h⟩
  ·rename_i k
   exact ⟨fun σ' h => (nomatch h), fun _ _ h => k h⟩
 | .num _, t, σ => by
  rw [matchP]
  split
  ·rename_i k
   exact ⟨fun σ' h => by cases h; exact ⟨fun q => ⟨q, k⟩, fun q => q.1⟩, fun h => nomatch h⟩
  ·rename_i k
   exact ⟨fun σ' h => (nomatch h), fun _ _ h => k h⟩
theorem matchP_inst (p t : T) : (∃ σ', matchP p t (fun _ => none) = some σ') ↔ Inst t p := by
 constructor
 ·rintro ⟨σ', h⟩
  refine ⟨fun n => (σ' n).getD (.var n), ?_⟩
  have := (matchP_ext (fun n => (σ' n).getD (.var n)) p t _).1 σ' h
  exact (this.1 fun n x hx => by show (σ' n).getD (.var n) = x; rw [hx]; rfl).2
 ·rintro ⟨s, hs⟩
  cases e : matchP p t (fun _ => none) with
  | some σ' => exact ⟨σ', rfl⟩
  | none => exact absurd hs ((matchP_ext s p t _).2 e fun n x hx => nomatch hx)
structure MInv (μ : Mem) (m : Nat) (σ : Int → Option T) (k : Nat) (h : Mem) : Prop where
 ex : ∃ l, h m = some (mapO l) ∧ MapOk IntKey l ∧ l.length ≤ k ∧ ∀ n, (σ n = none → mget l (.int .i64 n) = none) ∧ ∀ t, σ n = some t → ∃ v, mget l (.int .i64 n) = some v ∧ RepV μ t.tm.d v
theorem MInv.mono {μ μ' : Mem} {m : Nat} {σ : Int → Option T} {k k' : Nat} {h : Mem} (H : MInv μ m σ k h) (hle : μ.Le μ') (hk : k ≤ k') : MInv μ' m σ k' h := by
 obtain ⟨l, h1, h2, h3, h4⟩ := H.ex
 exact ⟨l, h1, h2, Nat.le_trans h3 hk, fun n => ⟨(h4 n).1, fun t ht => by
  obtain ⟨v, k1, k2⟩ := (h4 n).2 t ht
  exact ⟨v, k1, k2.mono hle⟩⟩⟩
section
variable {μ : Mem}
def MatchR (m : Nat) (k : Nat) (μ' h' : Mem) (o : Option (Int → Option T)) (r : Value) : Prop := match o with
 | some σ' => r = .bool true ∧ MInv μ' m σ' k h'
 | none => r = .bool false
theorem matched_spec {m : Nat} : ∀ (p t : T) (σ : Int → Option T) {k : Nat} {μ h : Mem} {vp vt : Value}, RepV μ p.tm.d vp → RepV μ t.tm.d vt → MInv μ m σ k h →
  SpecH Try.prog 125 [vp, vt, .map (some m)] μ h fun r μ' h' => μ' = μ ∧ MatchR m (k + p.lvs) μ' h' (matchP p t σ) r
 | .var n, t, σ, k, μ, h, vp, vt, hp, ht, H => by
  have w_ := Tm.invV hp
  obtain ⟨p1, rfl⟩ := w_
  have w_ := Tm.invV ht
  obtain ⟨p2, rfl⟩ := w_
  obtain ⟨l, h1, h2, h3, h4⟩ := H.ex
  refine SpecH.mk [] Try.func125 (by kernel_rfl) ?_
  intro r1 r2
  refine ifd (fun _ => ?_) (fun h => absurd rfl h)
  rw [matchP]
  have hnn : (T.var n).tm.num = n := rfl
  cases e : σ n with
  | some x =>
   obtain ⟨v, k1, k2⟩ := (h4 n).2 x e
   have w_ := Tm.invV k2
   obtain ⟨q, rfl⟩ := w_
   refine look_intro l _ h1 (h2.weaken (by rintro _ ⟨n, rfl⟩; rfl)) rfl k1 ?_
   intro r3
   refine iIn (fun _ => ?_) (fun h => nomatch h)
   refine cGv (equalTerms_spec x t k2 ht) ?_
   refine rPl ⟨rfl, ?_⟩
   dsimp only
   by_cases hx : x = t
   ·rw [if_pos hx, decide_eq_true hx]
    exact ⟨rfl, H.mono (Mem.Le.refl _) (by omega)⟩
   ·rw [if_neg hx, decide_eq_false hx]
    rfl
  | none =>
   have k1 := (h4 n).1 e
   refine look_intro l _ h1 (h2.weaken (by rintro _ ⟨n, rfl⟩; rfl)) rfl k1 ?_
   intro r3
   refine iIn (fun h => nomatch h) (fun _ => ?_)
   refine upd_intro l h1 (h2.weaken (by rintro _ ⟨n, rfl⟩; rfl)) rfl ?_
   refine rPl ⟨rfl, rfl, ⟨_, Mem.set_at _ _ _, h2.int _, ?_, fun a => ?_⟩⟩
   ·rw [mset_length, hnn, if_pos k1]
    show l.length + 1 ≤ k + 1
    omega
   ·rw [mget_int, updT, hnn]
    by_cases ha : a = n
    ·rw [if_pos ha, if_pos ha]
     exact ⟨fun h => (nomatch h), fun t' ht' => by cases ht'; exact ⟨_, rfl, ht⟩⟩
    ·rw [if_neg ha, if_neg ha]
     exact h4 a
 | .pair a b, t, σ, k, μ, h, vp, vt, hp, ht, H => by
  have w_ := Tm.inv hp
  obtain ⟨base, cap, rfl, hsa⟩ := w_
  have w_ := T.parts hsa
  obtain ⟨ad, ad', p, p', h1, h2, hra, hrb⟩ := w_
  cases t with
  | pair c d =>
   have w_ := Tm.inv ht
   obtain ⟨base2, cap2, rfl, hsb⟩ := w_
   have w_ := T.parts hsb
   obtain ⟨bd, bd', q, q', g1, g2, hrc, hrd⟩ := w_
   refine SpecH.mk [] Try.func125 (by kernel_rfl) ?_
   intro r1 r2
   refine ifd (fun h => absurd h (by simp)) (fun _ => ?_)
   refine ifnd (fun h => absurd rfl h) (fun _ => ?_)
   refine ifnd (fun h => absurd rfl h) (fun _ => ?_)
   refine ifnd (fun h => absurd rfl h) (fun _ => ?_)
   refine ifnd (fun h => absurd rfl h) (fun _ => ?_)
   refine eIn h1 ?_
   refine eIn g1 ?_
   refine cOw (matched_spec a c σ hra hrc H) fun r μ1 f1 hle1 hap1 hR => ?_
   obtain ⟨e, hR⟩ := hR
   obtain rfl := e.symm
   rw [matchP]
   cases e1 : matchP a c σ with
   | none =>
    rw [e1] at hR
    obtain rfl := hR
    exact iIn (fun h => nomatch h) (fun _ => rPl ⟨rfl, rfl⟩)
   | some σ1 =>
    rw [e1] at hR
    obtain ⟨rfl, H1⟩ := hR
    refine iIn (fun _ => ?_) (fun h => nomatch h)
    refine eIn h2 ?_
    refine eIn g2 ?_
    refine cOw (matched_spec b d σ1 hrb hrd H1) fun r μ2 f2 hle2 hap2 hR => ?_
    obtain ⟨e, hR⟩ := hR
    obtain rfl := e.symm
    refine rPl ⟨rfl, ?_⟩
    rw [Option.bind_some]
    have e3 : k + (T.pair a b).lvs = k + a.lvs + b.lvs := by simp only [T.lvs]; omega
    rw [e3]
    exact hR
  | _ =>
   have w_ := Tm.invV ht
   obtain ⟨p2, rfl⟩ := w_
   refine SpecH.mk [] Try.func125 (by kernel_rfl) ?_
   intro r1 r2
   refine ifd (fun h => absurd h (by simp)) (fun _ => ?_)
   refine ifnd (fun _ => rPl ⟨rfl, rfl⟩) (fun h => absurd h (by simp [T.tm, Tm.kind]))
 | .nil, t, σ, k, μ, h, vp, vt, hp, ht, H => by
  have w_ := Tm.invV hp
  obtain ⟨p1, rfl⟩ := w_
  have w_ := Tm.invV ht
  obtain ⟨p2, rfl⟩ := w_
  refine SpecH.mk [] Try.func125 (by kernel_rfl) ?_
  intro r1 r2
  rw [matchP]
  refine ifd (fun h => absurd h (by simp [T.tm, Tm.kind])) (fun _ => ?_)
  refine ifnd (fun h1 => rPl ⟨rfl, by rw [if_neg (fun e => h1 (by rw [← e]))]; rfl⟩) (fun h1 => ?_)
  refine ifnd (fun h2 => rPl ⟨rfl, by rw [if_neg (fun e => h2 (by rw [← e]))]; rfl⟩) (fun h2 => ?_)
  refine ifnd (fun h3 => rPl ⟨rfl, by rw [if_neg (fun e => h3 (by rw [← e]))]; rfl⟩) (fun h3 => ?_)
  refine ifnd (fun _ => ?_) (fun h => absurd h (by simp [T.tm, Tm.kind]))
  have e : T.nil = t := by
   cases t <;> simp_all [T.tm, Tm.kind, Tm.num, Tm.name]
  refine rPl ⟨rfl, ?_⟩
  rw [if_pos e]
  exact ⟨rfl, H.mono (Mem.Le.refl _) (by omega)⟩
 | .sym s, t, σ, k, μ, h, vp, vt, hp, ht, H => by
  have w_ := Tm.invV hp
  obtain ⟨p1, rfl⟩ := w_
  have w_ := Tm.invV ht
  obtain ⟨p2, rfl⟩ := w_
  refine SpecH.mk [] Try.func125 (by kernel_rfl) ?_
  intro r1 r2
  rw [matchP]
  refine ifd (fun h => absurd h (by simp [T.tm, Tm.kind])) (fun _ => ?_)
  refine ifnd (fun h1 => rPl ⟨rfl, by rw [if_neg (fun e => h1 (by rw [← e]))]; rfl⟩) (fun h1 => ?_)
  refine ifnd (fun h2 => rPl ⟨rfl, by rw [if_neg (fun e => h2 (by rw [← e]))]; rfl⟩) (fun h2 => ?_)
  refine ifnd (fun h3 => rPl ⟨rfl, by rw [if_neg (fun e => h3 (by rw [← e]))]; rfl⟩) (fun h3 => ?_)
  refine ifnd (fun _ => ?_) (fun h => absurd h (by simp [T.tm, Tm.kind]))
  have e : T.sym s = t := by
   cases t <;> simp_all [T.tm, Tm.kind, Tm.num, Tm.name]
  refine rPl ⟨rfl, ?_⟩
  rw [if_pos e]
  exact ⟨rfl, H.mono (Mem.Le.refl _) (by omega)⟩
 | .num s, t, σ, k, μ, h, vp, vt, hp, ht, H => by
  have w_ := Tm.invV hp
  obtain ⟨p1, rfl⟩ := w_
  have w_ := Tm.invV ht
  obtain ⟨p2, rfl⟩ := w_
  refine SpecH.mk [] Try.func125 (by kernel_rfl) ?_
  intro r1 r2
  rw [matchP]
  refine ifd (fun h => absurd h (by simp [T.tm, Tm.kind])) (fun _ => ?_)
  refine ifnd (fun h1 => rPl ⟨rfl, by rw [if_neg (fun e => h1 (by rw [← e]))]; rfl⟩) (fun h1 => ?_)
  refine ifnd (fun h2 => rPl ⟨rfl, by rw [if_neg (fun e => h2 (by rw [← e]))]; rfl⟩) (fun h2 => ?_)
  refine ifnd (fun h3 => rPl ⟨rfl, by rw [if_neg (fun e => h3 (by rw [← e]))]; rfl⟩) (fun h3 => ?_)
  refine ifnd (fun _ => ?_) (fun h => absurd h (by simp [T.tm, Tm.kind]))
  have e : T.num s = t := by
   cases t <;> simp_all [T.tm, Tm.kind, Tm.num, Tm.name]
  refine rPl ⟨rfl, ?_⟩
  rw [if_pos e]
  exact ⟨rfl, H.mono (Mem.Le.refl _) (by omega)⟩
theorem IsInstance_spec {t p : T} {vt vp : Value} (hto : t.ok) (hpo : p.ok) (hl : p.lvs ≤ 400) (ht : RepV μ t.tm.d vt) (hp : RepV μ p.tm.d vp) :
  Spec Try.prog 85 [vt, vp] μ fun r _ => r = .bool (decide (Inst t p)) := by
 have w_ := Tm.invV ht
 obtain ⟨p1, rfl⟩ := w_
 have w_ := Tm.invV hp
 obtain ⟨p2, rfl⟩ := w_
 refine Spec.mkO [9] Try.func85 (by kernel_rfl) ?_
 intro r1 r2 rm hmm hom
 have H0 : MInv μ rm (fun _ => none) 0 (Mem.set Mem.nil rm (mapO [])) := ⟨[], Mem.set_at _ _ _, MapOk.nil, Nat.le_refl _, fun n => ⟨fun _ => rfl, fun t h => nomatch h⟩⟩
 refine cGv (impl_TermOk_spec p.tm hp) ?_
 refine ifnd (fun h => absurd hpo.tm h) (fun _ => ?_)
 refine cGv (impl_TermOk_spec t.tm ht) ?_
 refine ifnd (fun h => absurd hto.tm h) (fun _ => ?_)
 refine cOw (matched_spec p t _ hp ht H0) fun r μ1 h1 hle1 hap1 hR => ?_
 obtain ⟨e, hR⟩ := hR
 obtain rfl := e.symm
 have hi := matchP_inst p t
 cases e1 : matchP p t (fun _ => none) with
 | none =>
  rw [e1] at hR hi
  obtain rfl := hR
  refine iIn (fun _ => rPl (isF fun k => ?_)) (fun h => nomatch h)
  have w_ := hi.2 k
  obtain ⟨_, h⟩ := w_
  cases h
 | some σ =>
  rw [e1] at hR hi
  obtain ⟨rfl, H1⟩ := hR
  have hin : Inst t p := hi.1 ⟨σ, rfl⟩
  obtain ⟨l, hm, hk, hll, hg⟩ := H1.ex
  refine iIn (fun h => nomatch h) (fun _ => ?_)
  refine mlen_intro l hm ?_
  intro ri hmi hoi
  have hne : rm ≠ ri := ne_of_none hm hoi
  refine lIn (fun p : Nat × List Nat => p.1 ≤ p.2.length ∧ p.2.Nodup ∧ ∀ j ∈ p.2, j < l.length)
   (fun (n, seen) => ⟨[(6, .val (.int .i64 n)), (26, .val (.pointer (some ⟨ri, 0, none⟩)))], [], 2, μ, h1.set ri (iterO rm l.length seen l.length)⟩) (fun p => l.length - p.2.length)
   (0, []) ⟨Nat.zero_le _, by simp, by simp⟩ (fun (_, _) => ⟨rfl, rfl⟩) ⟨⟨rfl, rfl, trivial⟩, trivial, rfl, rfl⟩ ?_
  rintro ⟨n, seen⟩ ⟨hn, hsn, hsl⟩
  dsimp only at hn hsn hsl
  have hslen := nodup_len hsn hsl
  refine next_intro rm seen l.length l (Mem.set_at _ _ _) ((Mem.set_ne hne).trans hm) (Nat.le_refl _) (fun hall => ?_) (fun j k v hj hns => ?_)
  ·refine iIn (fun h => nomatch h) (fun _ => ?_)
   refine rPl ?_
   rw [decide_eq_true hin, decide_eq_true (show (n : Int) ≤ 400 by omega)]
  ·have hjl := (List.getElem?_eq_some_iff.1 hj).1
   have w_ := hk.keys _ (mAt hj)
   obtain ⟨a, ha⟩ := w_
   have ha : k = .int .i64 a := ha
   subst ha
   have hget := mget_at hk.nodup hj
   obtain ⟨t', p', ev⟩ : ∃ (t' : T) (p' : Option Addr × Nat), v = .agg #[.int .i64 t'.tm.kind, .int .i64 t'.tm.num, .string t'.tm.name, .slice p'.1 t'.tm.args.length p'.2] := by
    cases e2 : σ a with
    | none =>
     have := (hg a).1 e2
     rw [hget] at this
     cases this
    | some t' =>
     obtain ⟨w, w1, w2⟩ := (hg a).2 t' e2
     rw [hget] at w1
     cases w1
     have w_ := Tm.invV w2
     obtain ⟨p', e3⟩ := w_
     exact ⟨t', p', e3⟩
   subst ev
   rw [Mem.set_set]
   have hsl2 : ∀ i ∈ seen ++ [j], i < l.length := fun i hi => by
    rcases List.mem_append.1 hi with hi | hi
    ·exact hsl i hi
    ·rw [List.mem_singleton] at hi; subst hi; exact hjl
   have hsn2 : (seen ++ [j]).Nodup := by
    rw [List.nodup_append]
    refine ⟨hsn, by simp, fun a ha b hb e => ?_⟩
    rw [List.mem_singleton] at hb
    subst hb; subst e; exact hns ha
   have hs3 := nodup_len hsn2 hsl2
   have hs4 : (seen ++ [j]).length = seen.length + 1 := by simp
   refine iIn (fun _ => ?_) (fun h => nomatch h)
   refine ent_intro rm l.length seen j l _ _ (Mem.set_at _ _ _) ((Mem.set_ne hne).trans hm) hj ?_
   intro r8
   refine ifnd (fun _ => ?_) (fun _ => ?_)
   ·exact num64 (by omega) (by omega) ⟨(n + 1, seen ++ [j]), ⟨by dsimp only; omega, hsn2, hsl2⟩, by dsimp only; omega, ⟨⟨rfl, rfl, trivial⟩, trivial, rfl, rfl⟩⟩
   ·refine ifnd (fun _ => ?_) (fun _ => ?_)
    ·exact num64 (by omega) (by omega) ⟨(n + 1, seen ++ [j]), ⟨by dsimp only; omega, hsn2, hsl2⟩, by dsimp only; omega, ⟨⟨rfl, rfl, trivial⟩, trivial, rfl, rfl⟩⟩
    ·exact ⟨(n, seen ++ [j]), ⟨by dsimp only; omega, hsn2, hsl2⟩, by dsimp only; omega, ⟨⟨rfl, rfl, trivial⟩, trivial, rfl, rfl⟩⟩
theorem IsVariant_spec {a b : T} {va vb : Value} (hao : a.ok) (hbo : b.ok) (hla : a.lvs ≤ 400) (hlb : b.lvs ≤ 400) (ha : RepV μ a.tm.d va) (hb : RepV μ b.tm.d vb) :
  Spec Try.prog 35 [va, vb] μ fun r _ => r = .bool (decide (canon1 a = canon1 b)) := by
 have w_ := Tm.invV ha
 obtain ⟨p1, rfl⟩ := w_
 have w_ := Tm.invV hb
 obtain ⟨p2, rfl⟩ := w_
 refine Spec.mk Try.func35 (by kernel_rfl) ?_
 intro r1 r2
 refine cPl (IsInstance_spec hao hbo hlb ha hb) fun r μ1 hle1 hR => ?_
 obtain rfl := hR
 refine ifd (fun h1 => ?_) (fun h1 => rPl (isF fun k => h1 (variant_iff.2 k).1))
 refine cPl (IsInstance_spec hbo hao hla (hb.mono hle1) (ha.mono hle1)) fun r μ2 hle2 hR => ?_
 obtain rfl := hR
 refine rPl (isI ?_)
 exact ⟨fun k => variant_iff.1 ⟨h1, k⟩, fun k => (variant_iff.2 k).2⟩
end
end Go.Vx
