/- The law FnExactInstantiate keeps its contract. -/
import Derived.Test.YtjgohkogcdmbdaaWa
namespace Go.Vx
open Go.Proofs Classical
theorem tm_cnt : ∀ t : Tm, t.d.cnt = 3 * t.cnt :=
  Tm.ind fun k n s l ih => by
    have : D.cnts (l.map Tm.d) = 3 * Tm.cnts l := by
      induction l with
      | nil => rfl
      | cons t l ih2 =>
        have h1 := ih t (by simp)
        have h2 := ih2 fun t ht => ih t (by simp [ht])
        simp only [List.map_cons, D.cnts, Tm.cnts, h1, h2]; omega
    rw [Tm.cnt_eq, Tm.cnt]
    show 3 + D.cnts (l.map Tm.d) = _
    omega
theorem tm_cnt_sz : ∀ t : Tm, t.d.cnt ≤ 3 + 3 * t.d.sz :=
  Tm.ind fun k n s l ih => by
    have : D.cnts (l.map Tm.d) ≤ 3 * l.length + 3 * D.szs (l.map Tm.d) := by
      induction l with
      | nil => simp [D.cnts, D.szs]
      | cons t l ih2 =>
        have h1 := ih t (by simp)
        have h2 := ih2 fun t ht => ih t (by simp [ht])
        simp only [List.map_cons, D.cnts, D.szs, List.length_cons]; omega
    rw [Tm.cnt_eq, Tm.d_mk]
    show 3 + D.cnts (l.map Tm.d) ≤ _
    simp only [D.sz, D.szs, List.length_map]
    omega
theorem bds_cnt : ∀ l : List Bd, D.cnts (l.map Bd.d) ≤ 4 * l.length + 3 * D.szs (l.map Bd.d)
  | [] => by simp [D.cnts, D.szs]
  | b :: l => by
    have h1 := bds_cnt l
    have h2 := tm_cnt_sz b.to
    rw [Tm.cnt_eq] at h2
    have h3 := Bd.cnt_eq b
    have h4 : b.d.sz = b.to.d.sz := by simp [Bd.d, D.sz, D.szs]
    simp only [List.map_cons, D.cnts, D.szs, List.length_cons]; omega
theorem tm_mt (t : Tm) (k : Int) : (t.d.mt k).2 = k + D.cnts (t.args.map Tm.d) := by rw [Tm.mt_eq]; exact D.mks_cnt _ _
/-- The term of an answer. -/
def resTm : Option T → Tm
  | some y => y.tm
  | none => .mk 0 0 ⟨#[]⟩ []
theorem zero_own : OwnV (resTm none).d Mem.nil (.agg #[.int .i64 0, .int .i64 0, .string ⟨#[]⟩, .slice none 0 0]) := by
  rw [resTm, Tm.d_mk]
  exact ⟨_, rfl, OwnS.int (OwnS.int (OwnS.str (OwnS.last (Own.nilSl 4))))⟩
theorem optV_rep {μ : Mem} {o : Option T} {v : Value} (h : optV (fun y tv => RepV μ y.tm.d tv) o v) : ∃ tv, v = .tuple #[tv, .bool o.isSome] ∧ RepV μ (resTm o).d tv := by
  cases o with
  | some y => obtain ⟨tv, rfl, h⟩ := h; exact ⟨tv, rfl, h⟩
  | none => exact ⟨_, h, zero_own.rep (fun _ _ h => nomatch h)⟩
theorem optV_fresh {μ μ' : Mem} {o : Option T} {v : Value} (h : optV (fun y tv => Fresh μ μ' y.tm.d tv) o v) : ∃ tv, v = .tuple #[tv, .bool o.isSome] ∧ Fresh μ μ' (resTm o).d tv := by
  cases o with
  | some y => obtain ⟨tv, rfl, h⟩ := h; exact ⟨tv, rfl, h⟩
  | none => exact ⟨_, h, Mem.nil, zero_own, (fun _ _ h => nomatch h), fun _ h => absurd rfl h⟩
theorem inst_size (t : Tm) (l : List Bd) : (resTm (inst t l)).cnt ≤ 5000 := by
  unfold inst
  split
  · rename_i h
    rw [resTm, T.cnt_tm]; exact h.2.2
  · show 1 + 0 ≤ 5000; omega
section
variable {μ : Mem}
set_option maxHeartbeats 4000000 in
theorem FnExactInstantiate_spec {t : Tm} {l : List Bd} {vt vl : Value} (ht : RepV μ t.d vt) (hl : RepV μ (.sl 5 (l.map Bd.d)) vl) (wt : t.d.wd) (wl : D.wds (l.map Bd.d)) :
    Spec Try.prog 6 [vt, vl] μ fun r _ => r = .bool true := by
  obtain ⟨pt, rfl⟩ := Tm.invV ht
  obtain ⟨lb, lc, rfl, hsl⟩ := Rep.sl hl
  rw [List.length_map] at hsl hl ⊢
  refine Spec.mk Try.func6 (by kernel_rfl) ?_
  intro r1
  refine call_gives (szTerm_spec t ht (by omega) (by omega) wt) ?_
  refine ifd (fun h => ret_plain rfl) (fun h => ?_)
  have hbt := szR_ge h
  rw [szR_pos hbt]
  refine call_gives (szBindingS_spec hsl (by omega) (by omega) wl) ?_
  refine ifd (fun h => ret_plain rfl) (fun h => ?_)
  have hbl := szR_ge h
  have hbt : t.d.sz ≤ 1048576 := by omega
  have hbl : l.length + D.szs (l.map Bd.d) ≤ 1048576 := by omega
  -- the reference's answer
  refine call_plain (toTerm_spec t ht hbt) fun v1 μ1 hle1 hf1 => ?_
  refine call_plain (toBindingS_spec (hsl.mono hle1) hbl) fun v2 μ2 hle2 hf2 => ?_
  obtain ⟨b2, c2, rfl, hs2⟩ := Rep.sl hf2.rep
  rw [List.length_map] at hs2 ⊢
  refine call_plain (spec_Instantiate_spec (hf1.rep.mono hle2) wt hs2 wl) fun v μ3 hle3 hR => ?_
  obtain ⟨w0, rfl, hw⟩ := optV_rep hR
  obtain ⟨pw, rfl⟩ := Tm.invV hw
  have ht3 := ((ht.mono hle1).mono hle2).mono hle3
  have hl3 := ((hsl.mono hle1).mono hle2).mono hle3
  intro r3
  -- the arguments' copies
  refine call_new id (apart_nil _) Owns.none ((toTerm_spec t (ht3.mono (Mem.le_join _ _)) hbt).weaken fun v μ' _ h => ⟨v, rfl, h⟩) fun x0 μ4 H4 hle4 hap4 ho4 => ?_
  obtain ⟨px, rfl⟩ := Tm.invV (Owns.rep (l1 := []) hap4 ho4)
  intro r4
  have ht4 := ht3.mono hle4
  have hl4 := hl3.mono hle4
  have hw4 := hw.mono hle4
  refine call_new id hap4 ho4 ((toBindingS_spec (hl4.mono (Mem.le_join _ _)) hbl).weaken fun v μ' _ h => ⟨v, rfl, h⟩) fun x1 μ5 H5 hle5 hap5 ho5 => ?_
  have hx1 := Owns.rep (l1 := [_]) hap5 ho5
  obtain ⟨yb, yc, rfl, hx1s⟩ := Rep.sl hx1
  rw [List.length_map] at *
  have ht5 := ht4.mono hle5
  have hl5 := hl4.mono hle5
  have hw5 := hw4.mono hle5
  -- the program's answer
  refine call_new (fun gv => .tuple #[gv, .bool (inst t l).isSome]) hap5 ho5 ((impl_Instantiate_spec (Owns.rep (l1 := []) hap5 ho5) hx1s).weaken fun v μ' _ h => optV_fresh h) fun g0 μ6 H6 hle6 hap6 ho6 => ?_
  obtain ⟨pg, rfl⟩ := Tm.invV (Owns.rep (l1 := [_, _]) hap6 ho6)
  intro r6
  have ht6 := ht5.mono hle6
  have hl6 := hl5.mono hle6
  have hw6 := hw5.mono hle6
  refine call_read hap6 (eqTerm_spec _ (Owns.rep (l1 := [_, _]) hap6 ho6) (hw6.mono (Mem.le_join _ _))) ?_
  refine if_intro (fun h => nomatch h) (fun _ => ?_)
  refine if_intro (fun h => absurd h (by simp)) (fun _ => ?_)
  refine call_data hap6 (toTerm_spec t ht6 hbt) fun v7 μ7 hle7 hap7 hf7 => ?_
  have ht7 := ht6.mono hle7
  have hl7 := hl6.mono hle7
  have hw7 := hw6.mono hle7
  refine call_read hap7 (eqTerm_spec t (Owns.rep (l1 := []) hap7 ho6) (hf7.rep.mono (Mem.le_join _ _))) ?_
  refine if_intro (fun h => nomatch h) (fun _ => ?_)
  refine call_data hap7 (toBindingS_spec hl7 hbl) fun v8 μ8 hle8 hap8 hf8 => ?_
  have ht8 := ht7.mono hle8
  have hl8 := hl7.mono hle8
  have hw8 := hw7.mono hle8
  obtain ⟨b8, c8, rfl, hs8⟩ := Rep.sl hf8.rep
  obtain ⟨yb', yc', e8, hy8⟩ := Rep.sl (Owns.rep (l1 := [_]) hap8 ho6)
  rw [List.length_map] at *
  obtain ⟨rfl, _, rfl⟩ := Value.slice.inj e8
  refine call_read hap8 (eqBindingS_spec hy8 (hs8.mono (Mem.le_join _ _))) ?_
  refine if_intro (fun h => nomatch h) (fun _ => ?_)
  -- marks
  have ca := tm_cnt_sz t
  rw [Tm.cnt_eq] at ca
  have cb := bds_cnt l
  have cg := tm_cnt (resTm (inst t l))
  have cg2 := inst_size t l
  rw [Tm.cnt_eq] at cg
  have ma := tm_mt t 1
  have mg := tm_mt (resTm (inst t l)) 1
  have mb := D.mks_cnt (l.map Bd.d) (t.d.mt 1).2
  refine call_mark (l1 := []) hap8 ho6 (fun hx o => markTerm_spec t o (by omega) (by omega)) fun H9 hap9 ho9 => ?_
  refine call_mark (l1 := [_]) hap9 ho9 (fun hx o => markBindingS_spec o (by omega) (by omega)) fun H10 hap10 ho10 => ?_
  refine ifd (fun h => by omega) (fun _ => ?_)
  refine call_read hap10 (eqTerm_spec _ (Owns.rep (l1 := [_, _]) hap10 ho10) (hw8.mono (Mem.le_join _ _))) ?_
  refine if_intro (fun h => nomatch h) (fun _ => ?_)
  refine if_intro (fun h => absurd h (by simp)) (fun _ => ?_)
  refine call_mark (l1 := [_, _]) hap10 ho10 (fun hx o => markTerm_spec _ o (by omega) (by omega)) fun H11 hap11 ho11 => ?_
  refine call_read hap11 (heldTerm_spec _ (Owns.rep (l1 := [_, _]) hap11 ho11) (by omega) (by omega)) ?_
  refine ifd (fun h => by omega) (fun _ => ?_)
  refine ifnd (fun h => absurd rfl h) (fun _ => ?_)
  -- once more
  refine call_data hap11 (toTerm_spec t ht8 hbt) fun v12 μ12 hle12 hap12 hf12 => ?_
  refine call_data hap12 (toBindingS_spec (hl8.mono hle12) hbl) fun v13 μ13 hle13 hap13 hf13 => ?_
  obtain ⟨b13, c13, rfl, hs13⟩ := Rep.sl hf13.rep
  rw [List.length_map] at *
  refine call_data hap13 ((impl_Instantiate_spec (hf12.rep.mono hle13) hs13).weaken fun v μ' _ h => optV_fresh h) fun v14 μ14 hle14 hap14 hR => ?_
  obtain ⟨h0, rfl, hh0⟩ := hR
  obtain ⟨ph, rfl⟩ := Tm.invV hh0.rep
  intro r14
  refine call_read hap14 (eqTerm_spec _ (hh0.rep.mono (Mem.le_join _ _)) ((((hw8.mono hle12).mono hle13).mono hle14).mono (Mem.le_join _ _))) ?_
  refine if_intro (fun h => nomatch h) (fun _ => ?_)
  refine if_intro (fun h => absurd h (by simp)) (fun _ => ?_)
  refine call_read hap14 (heldTerm_spec _ (Owns.rep (l1 := [_, _]) hap14 ho11) (by omega) (by omega)) ?_
  refine ifd (fun h => by omega) (fun _ => ?_)
  refine ifnd (fun h => absurd rfl h) (fun _ => ?_)
  exact ret_plain rfl
end
end Go.Vx
