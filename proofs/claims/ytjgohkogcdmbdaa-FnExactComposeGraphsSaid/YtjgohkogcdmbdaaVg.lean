/- The law FnExactComposeGraphs keeps its contract. -/
import Derived.Test.YtjgohkogcdmbdaaVf
import Derived.Test.YtjgohkogcdmbdaaVxY
namespace Go.Vx
open Go.Proofs Classical
section
variable {μ : Mem}
theorem cnts_arcs : ∀ (l : List Arc), D.cnts (l.map Arc.d) = 3 * l.length
  | [] => rfl
  | a :: l => by
    have ih := cnts_arcs l
    simp only [List.map_cons, D.cnts, List.length_cons, ih]
    simp only [Arc.d, D.cnt, D.cnts]
    omega
theorem res_arcs (a b : Graph) : (a.res b).arcs.length ≤ 16 := by
  unfold Graph.res
  split
  · exact cells_len _ _ _
  · simp
theorem mt_graph (g : Graph) (k : Int) : (D.mt g.d k).2 = k + 3 * g.arcs.length := by
  simp only [Graph.d, D.mt, D.mts, D.mks_cnt, cnts_arcs]
  omega
set_option maxHeartbeats 4000000 in
theorem FnExactComposeGraphs_spec {a b : Graph} {va vb : Value} (ha : RepV μ a.d va) (hb : RepV μ b.d vb) (a1 : a.caller.size ≤ maxLen) (a2 : a.callee.size ≤ maxLen) (b1 : b.caller.size ≤ maxLen) (b2 : b.callee.size ≤ maxLen) :
    Spec Try.prog 4 [va, vb] μ fun r _ => r = .bool true := by
  obtain ⟨ab, ac, rfl, hsa⟩ := Graph.inv ha
  obtain ⟨bb, bc, rfl, hsb⟩ := Graph.inv hb
  refine Spec.mk Try.func4 (by kernel_rfl) ?_
  intro r1 r2
  refine call_gives (szSizeGraph_spec ha (by omega) (by omega) a1 a2) ?_
  refine ifd (fun h => ret_plain rfl) (fun h => ?_)
  have hba := szR_ge h
  rw [szR_pos hba]
  refine call_gives (szSizeGraph_spec hb (by omega) (by omega) b1 b2) ?_
  refine ifd (fun h => ret_plain rfl) (fun h => ?_)
  have hbb := szR_ge h
  have hba : a.sz ≤ 1048576 := by omega
  have hbb : b.sz ≤ 1048576 := by omega
  -- the reference's answer
  refine call_plain (toSizeGraph_spec ha hba) fun v1 μ1 hle1 hf1 => ?_
  refine call_plain (toSizeGraph_spec (hb.mono hle1) hbb) fun v2 μ2 hle2 hf2 => ?_
  refine call_plain (spec_ComposeGraphs_spec (hf1.rep.mono hle2) hf2.rep a1 a2 b1 b2) fun v μ3 hle3 hR => ?_
  obtain ⟨w0, rfl, hw⟩ := hR
  have hw := hw.rep
  obtain ⟨wb, wc, rfl, hsw⟩ := Graph.inv hw
  have ha3 := ((ha.mono hle1).mono hle2).mono hle3
  have hb3 := ((hb.mono hle1).mono hle2).mono hle3
  intro r3
  -- the arguments' copies
  refine call_new id (apart_nil _) Owns.none ((toSizeGraph_spec (ha3.mono (Mem.le_join _ _)) hba).weaken fun v μ' _ h => ⟨v, rfl, h⟩) fun x0 μ4 H4 hle4 hap4 ho4 => ?_
  obtain ⟨xb, xc, rfl, hx0⟩ := Graph.inv (Owns.rep (l1 := []) hap4 ho4)
  intro r4
  have ha4 := ha3.mono hle4
  have hb4 := hb3.mono hle4
  have hw4 := hw.mono hle4
  refine call_new id hap4 ho4 ((toSizeGraph_spec (hb4.mono (Mem.le_join _ _)) hbb).weaken fun v μ' _ h => ⟨v, rfl, h⟩) fun x1 μ5 H5 hle5 hap5 ho5 => ?_
  obtain ⟨yb, yc, rfl, hx1⟩ := Graph.inv (Owns.rep (l1 := [_]) hap5 ho5)
  intro r5
  have ha5 := ha4.mono hle5
  have hb5 := hb4.mono hle5
  have hw5 := hw4.mono hle5
  -- the program's answer
  refine call_new (fun gv => .tuple #[gv, .bool (decide (a.can b))]) hap5 ho5 (impl_ComposeGraphs_spec (Owns.rep (l1 := []) hap5 ho5) (Owns.rep (l1 := [_]) hap5 ho5)) fun g0 μ6 H6 hle6 hap6 ho6 => ?_
  obtain ⟨gb, gc, rfl, hg0⟩ := Graph.inv (Owns.rep (l1 := [_, _]) hap6 ho6)
  intro r6
  have ha6 := ha5.mono hle6
  have hb6 := hb5.mono hle6
  have hw6 := hw5.mono hle6
  refine call_read hap6 (eqSizeGraph_spec (Owns.rep (l1 := [_, _]) hap6 ho6) (hw6.mono (Mem.le_join _ _))) ?_
  refine ifnd (fun h => absurd rfl h) (fun _ => ?_)
  refine if_intro (fun h => absurd h (by simp)) (fun _ => ?_)
  refine call_data hap6 (toSizeGraph_spec ha6 hba) fun v7 μ7 hle7 hap7 hf7 => ?_
  have hb7 := hb6.mono hle7
  have ha7 := ha6.mono hle7
  have hw7 := hw6.mono hle7
  refine call_read hap7 (eqSizeGraph_spec (Owns.rep (l1 := []) hap7 ho6) (hf7.rep.mono (Mem.le_join _ _))) ?_
  refine ifnd (fun h => absurd rfl h) (fun _ => ?_)
  refine call_data hap7 (toSizeGraph_spec hb7 hbb) fun v8 μ8 hle8 hap8 hf8 => ?_
  have hb8 := hb7.mono hle8
  have ha8 := ha7.mono hle8
  have hw8 := hw7.mono hle8
  refine call_read hap8 (eqSizeGraph_spec (Owns.rep (l1 := [_]) hap8 ho6) (hf8.rep.mono (Mem.le_join _ _))) ?_
  refine ifnd (fun h => absurd rfl h) (fun _ => ?_)
  -- marks
  have ca : D.cnts (a.arcs.map Arc.d) = 3 * a.arcs.length := cnts_arcs _
  have cb : D.cnts (b.arcs.map Arc.d) = 3 * b.arcs.length := cnts_arcs _
  have cg : D.cnts ((a.res b).arcs.map Arc.d) = 3 * (a.res b).arcs.length := cnts_arcs _
  have lg := res_arcs a b
  have la : a.arcs.length ≤ a.sz := by unfold Graph.sz; omega
  have lb : b.arcs.length ≤ b.sz := by unfold Graph.sz; omega
  have ma := mt_graph a 1
  have mb := mt_graph b (D.mt a.d 1).2
  have mg := mt_graph (a.res b) 1
  refine call_mark (l1 := []) hap8 ho6 (fun hx o => markSizeGraph_spec o (by omega) (by omega)) fun H9 hap9 ho9 => ?_
  refine call_mark (l1 := [_]) hap9 ho9 (fun hx o => markSizeGraph_spec o (by omega) (by omega)) fun H10 hap10 ho10 => ?_
  refine ifd (fun h => by omega) (fun _ => ?_)
  refine call_read hap10 (eqSizeGraph_spec (Owns.rep (l1 := [_, _]) hap10 ho10) (hw8.mono (Mem.le_join _ _))) ?_
  refine ifnd (fun h => absurd rfl h) (fun _ => ?_)
  refine if_intro (fun h => absurd h (by simp)) (fun _ => ?_)
  refine call_mark (l1 := [_, _]) hap10 ho10 (fun hx o => markSizeGraph_spec o (by omega) (by omega)) fun H11 hap11 ho11 => ?_
  refine call_read hap11 (heldSizeGraph_spec (Owns.rep (l1 := [_, _]) hap11 ho11) (by omega) (by omega)) ?_
  refine ifd (fun h => by omega) (fun _ => ?_)
  refine ifnd (fun h => absurd rfl h) (fun _ => ?_)
  -- once more
  refine call_data hap11 (toSizeGraph_spec ha8 hba) fun v12 μ12 hle12 hap12 hf12 => ?_
  refine call_data hap12 (toSizeGraph_spec (hb8.mono hle12) hbb) fun v13 μ13 hle13 hap13 hf13 => ?_
  refine call_data hap13 (impl_ComposeGraphs_spec (hf12.rep.mono hle13) hf13.rep) fun v14 μ14 hle14 hap14 hR => ?_
  obtain ⟨h0, rfl, hh0⟩ := hR
  obtain ⟨hb0, hc0, rfl, hs0⟩ := Graph.inv hh0.rep
  intro r14
  refine call_read hap14 (eqSizeGraph_spec (hh0.rep.mono (Mem.le_join _ _)) ((((hw8.mono hle12).mono hle13).mono hle14).mono (Mem.le_join _ _))) ?_
  refine ifnd (fun h => absurd rfl h) (fun _ => ?_)
  refine if_intro (fun h => absurd h (by simp)) (fun _ => ?_)
  refine call_read hap14 (heldSizeGraph_spec (Owns.rep (l1 := [_, _]) hap14 ho11) (by omega) (by omega)) ?_
  refine ifd (fun h => by omega) (fun _ => ?_)
  refine ifnd (fun h => absurd rfl h) (fun _ => ?_)
  exact ret_plain rfl
end
end Go.Vx
