/- Contracts: copies; the reference's Instantiate. -/
import Derived.Test.YtjgohkogcdmbdaaVs
import Derived.Test.YtjgohkogcdmbdaaVj
namespace Go.Vx
open Go.Proofs Classical
theorem T.d_eq (x : T) : x.tm.d = .st [.i x.tm.kind, .i x.tm.num, .s x.tm.name, .sl 4 ((x.args.map T.tm).map Tm.d)] := by
  rw [Tm.d_eq, T.tm_args]
theorem T.inv {μ : Mem} {x : T} {w : Value} (hw : RepV μ x.tm.d w) : ∃ base cap, w = .agg #[.int .i64 x.tm.kind, .int .i64 x.tm.num, .string x.tm.name, .slice base x.args.length cap] ∧ Sl μ 4 base x.args.length ((x.args.map T.tm).map Tm.d) := by
  have h1 := Tm.inv (k := x.tm.kind) (n := x.tm.num) (s := x.tm.name) (l := x.tm.args) (v := w) (by cases x <;> exact hw)
  rw [T.tm_args, List.length_map] at h1
  exact h1
theorem T.args_le (x : T) : x.args.length ≤ 2 := by cases x <;> simp [T.args]
theorem l02Copy_spec : ∀ (x : T) {μ : Mem} {v : Value}, RepV μ x.tm.d v → Spec Try.prog 55 [v] μ fun v μ' => RepV μ' x.tm.d v :=
  T.ind fun x ih μ v hv => by
    obtain ⟨base, cap, rfl, hsl⟩ := T.inv hv
    have hn := T.args_le x
    refine Spec.mk Try.func55 (by kernel_rfl) ?_
    intro r1 r2 r3
    refine loop_nil (fun p : Nat × Option Nat × Nat × List Value × Mem => p.1 ≤ x.args.length ∧ μ.Le p.2.2.2.2 ∧ Rows p.2.2.2.2 4 (((x.args.take p.1).map T.tm).map Tm.d) p.2.2.2.1)
      (fun (i, b, c, ys, μ') => ⟨[(2, .loc 1 r2 0), (3, .loc 2 r3 0), (14, .val (.slice base x.args.length cap)), (15, .val (.int .i64 x.args.length)), (16, .val (.int .i64 i))],
        [(1, some (.cells r2 [.val (.int .i64 0), .val (.int .i64 0), .val (.string ⟨#[]⟩), .val (.slice none 0 0)] 50)), (2, some (.cells r3 [.val (.int .i64 x.tm.kind), .val (.int .i64 x.tm.num), .val (.string x.tm.name), .row 3 b ys.length c] 50)), (3, some (.row b c 50 4 ys))], 4, μ', Mem.nil⟩) (fun p => x.args.length - p.1)
      (0, none, 0, [], μ) ⟨by simp, Mem.Le.refl μ, .nil⟩ (fun (_, _, _, _, _) => ⟨rfl, rfl⟩) ⟨⟨⟨_, rfl, .inl rfl⟩, ⟨_, rfl, .inl rfl⟩, ⟨_, rfl, .inl rfl⟩, ⟨_, rfl, .inl rfl⟩, ⟨_, rfl, .inl rfl⟩, trivial⟩, ⟨.inl rfl, .inr (.inr ⟨_, _, _, _, rfl, rfl, .inl rfl, .inl rfl, .inl rfl, .inr ⟨3, rfl, rfl, Nat.le_refl _⟩, trivial⟩), .inr (.inl ⟨_, _, rfl, Nat.le_refl _⟩), trivial⟩, rfl, rfl⟩ ?_
    rintro ⟨i, b, c, ys, μ'⟩ ⟨hi, hle, hrows⟩
    dsimp only at hi hle hrows
    have hlen := hrows.len
    simp only [List.length_map, List.length_take] at hlen
    refine ifd (fun h => ?_) (fun h => ?_)
    · obtain ⟨t, ht⟩ := at_some (l := x.args) (i := i) (by omega)
      have ht' : (x.args.map T.tm)[i]? = some t.tm := by simp [ht]
      obtain ⟨ad, p, hel, hr⟩ := Tm.elem (hsl.mono hle) ht'
      refine elem_intro hel ?_
      intro r4
      refine call_plain (ih t (mem_at ht) hr) fun v' μ'' hle2 hR => ?_
      obtain ⟨q, rfl⟩ := Tm.invV hR
      intro r5
      refine grow_intro ?_ ?_ fun b' c' _ => ?_
      · show (ys.length + 1) * 56 ≤ _; omega
      · show ys.length + 1 ≤ 9223372036854775807; omega
      have hsucc : ((x.args.take (i + 1)).map T.tm).map Tm.d = ((x.args.take i).map T.tm).map Tm.d ++ [t.tm.d] := by
        rw [List.take_add_one, ht, Option.toList_some]; simp
      exact num64 (by omega) (by omega) ⟨(i + 1, b', c', _, μ''), ⟨by dsimp only; omega, hle.trans hle2, by rw [hsucc]; exact (hrows.mono hle2).append (Rows.one hR (Tm.d_n _))⟩, by dsimp only; omega, ⟨⟨rfl, rfl, rfl, rfl, rfl, trivial⟩, ⟨rfl, rfl, rfl, trivial⟩, rfl, rfl⟩⟩
    · obtain rfl : i = x.args.length := by omega
      rw [List.take_length] at hrows
      refine ret_frz [3] fun μ2 hle2 hno hrow => .inl ?_
      rw [T.d_eq]
      exact ⟨_, rfl, RepS.int (RepS.int (RepS.str (RepS.last (Rows.sl hrow (hrows.mono hle2) (Nat.le_trans (m := 10) (by omega) (by decide))))))⟩
section
variable {μ : Mem}
/-- What 'Instantiate' gives. -/
noncomputable def inst (t : Tm) (l : List Bd) : Option T := if t.Ok ∧ valsOk l ∧ (t.toT.subst (sub (l.map Bd.b))).size ≤ 5000 then some (t.toT.subst (sub (l.map Bd.b))) else none
theorem spec_Instantiate_spec {t : Tm} {l : List Bd} {v : Value} {base : Option Addr} {cap : Nat} (hv : RepV μ t.d v) (hw : t.d.wd) (hsl : Sl μ 5 base l.length (l.map Bd.d)) (hwl : D.wds (l.map Bd.d)) :
    Spec Try.prog 25 [v, .slice base l.length cap] μ fun v μ' => optV (fun y tv => RepV μ' y.tm.d tv) (inst t l) v := by
  obtain ⟨p, rfl⟩ := Tm.invV hv
  refine Spec.mk Try.func25 (by kernel_rfl) ?_
  intro r1 r2
  refine call_gives (spec_TermOk_spec t hv hw) ?_
  refine ifnd (fun h => ret_plain (by rw [inst, if_neg fun k => h k.1]; rfl)) (fun h1 => ?_)
  refine call_gives (spec_ValuesOk_spec hsl hwl) ?_
  refine ifnd (fun h => ret_plain (by rw [inst, if_neg fun k => h k.2.1]; rfl)) (fun h2 => ?_)
  have e1 := h1.toT.2
  have e2 := h2.lift.1
  have hv' : RepV μ t.toT.tm.d (.agg #[.int .i64 t.kind, .int .i64 t.num, .string t.name, .slice p.1 t.args.length p.2]) := by rw [e1]; exact hv
  have hsl' : Sl μ 5 base (l.map Bd.b).length (((l.map Bd.b).map B.bd).map Bd.d) := by rw [e2, List.length_map]; exact hsl
  have hcall := l04Apply_spec (cap := cap) t.toT hsl' hv'
  rw [List.length_map] at hcall
  refine call_plain hcall fun v1 μ1 hle1 hR => ?_
  obtain ⟨tv, rfl, hR⟩ := hR
  obtain ⟨q, rfl⟩ := Tm.invV hR
  intro r3
  refine ifnd (fun h => ret_plain (by rw [inst, if_neg fun k => h k.2.2]; rfl)) (fun h3 => ?_)
  refine call_plain (l02Copy_spec _ hR) fun v2 μ2 hle2 hR2 => ?_
  obtain ⟨q2, rfl⟩ := Tm.invV hR2
  refine ret_plain ?_
  rw [inst, if_pos ⟨h1, h2, h3⟩]
  exact ⟨_, rfl, hR2⟩
end
end Go.Vx
