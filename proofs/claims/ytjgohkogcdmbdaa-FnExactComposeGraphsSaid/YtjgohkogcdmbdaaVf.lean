/- Contracts: graphs composed. -/
import Derived.Test.YtjgohkogcdmbdaaVe
namespace Go.Vx
open Go.Proofs Classical
def cstep (i k : Nat) (x : Arc) (st : Bool × Bool) (y : Arc) : Bool × Bool := if x.src = i ∧ x.dst = y.src ∧ y.dst = k then (true, (st.2 || x.strict) || y.strict) else st
def cell (a b : List Arc) (i k : Nat) : Bool × Bool := a.foldl (fun st x => b.foldl (cstep i k x) st) (false, false)
def cells (a b : List Arc) (m : Nat) : List Arc := (List.range m).flatMap fun m => if (cell a b (m / 4) (m % 4)).1 = true then [⟨(m / 4 : Nat), (m % 4 : Nat), (cell a b (m / 4) (m % 4)).2⟩] else []
theorem cells_succ (a b : List Arc) (i k : Nat) (hk : k < 4) : cells a b (4 * i + (k + 1)) = cells a b (4 * i + k) ++ if (cell a b i k).1 = true then [⟨i, k, (cell a b i k).2⟩] else [] := by
  have e1 : (4 * i + k) / 4 = i := by omega
  have e2 : (4 * i + k) % 4 = k := by omega
  show cells a b ((4 * i + k) + 1) = _
  simp only [cells, List.range_succ, List.flatMap_append, List.flatMap_cons, List.flatMap_nil, List.append_nil, e1, e2]
theorem cells_len (a b : List Arc) : ∀ (m : Nat), (cells a b m).length ≤ m
  | 0 => by simp [cells]
  | m + 1 => by
    have ih := cells_len a b m
    simp only [cells, List.range_succ, List.flatMap_append, List.flatMap_cons, List.flatMap_nil, List.append_nil, List.length_append] at ih ⊢
    split <;> simp only [List.length_cons, List.length_nil] <;> omega
section
variable {μ : Mem}
/-- The graph of both. -/
def Graph.comp (a b : Graph) : Graph := ⟨a.caller, b.callee, cells a.arcs b.arcs 16⟩
theorem comp_fresh {a b : Graph} {base : Option Nat} {cap : Nat} {μ' : Mem} (hle : μ.Le μ') (hno : ∀ r, base = some r → μ r = none) (hrow : RowAt μ' base cap 3 ((cells a.arcs b.arcs (4 * 4)).map Arc.v)) :
    Fresh μ μ' (a.comp b).d (.agg #[.string a.caller, .string b.callee, .slice (base.map fun r => ⟨r, 0, none⟩) ((cells a.arcs b.arcs (4 * 4)).map Arc.v).length cap]) := by
  have hlen := cells_len a.arcs b.arcs (4 * 4)
  obtain ⟨g, h1, h2, h3⟩ := Fresh.ofRow (Arc.rows _) (fun _ _ h => nomatch h) (fun _ h => absurd rfl h) (Mem.Le.refl μ) hle hno hrow (by rw [List.length_map]; show _ ≤ 9223372036854775807; omega)
  exact ⟨g, ⟨_, rfl, OwnS.str (OwnS.str (OwnS.last h1))⟩, h2, h3⟩
theorem zero_fresh {μ' : Mem} : Fresh μ μ' (Graph.mk ⟨#[]⟩ ⟨#[]⟩ []).d (.agg #[.string ⟨#[]⟩, .string ⟨#[]⟩, .slice none 0 0]) :=
  ⟨Mem.nil, ⟨_, rfl, OwnS.str (OwnS.str (OwnS.last (Own.nilSl 3)))⟩, (fun _ _ h => nomatch h), fun _ h => absurd rfl h⟩
set_option maxHeartbeats 4000000 in
theorem l31Compose_spec {a b : Graph} {va vb : Value} (ha : RepV μ a.d va) (hb : RepV μ b.d vb) : Spec Try.prog 44 [va, vb] μ fun v μ' => Fresh μ μ' (a.comp b).d v := by
  obtain ⟨abase, acap, rfl, hsa⟩ := Graph.inv ha
  obtain ⟨bbase, bcap, rfl, hsb⟩ := Graph.inv hb
  have hma : a.arcs.length ≤ 9223372036854775807 := Nat.le_trans hsa.max (by decide)
  have hmb : b.arcs.length ≤ 9223372036854775807 := Nat.le_trans hsb.max (by decide)
  refine Spec.mk Try.func44 (by kernel_rfl) ?_
  intro r0 r1 r2 r3
  refine loop_nil (fun p : Nat × Option Nat × Nat => p.1 ≤ 4) (fun (i, base, cap) => ⟨[(2, .loc 0 r0 0), (3, .loc 1 r1 0), (4, .loc 2 r2 0), (5, .loc 3 r3 0), (6, .val (.int .i64 i))], [(0, some (.cells r0 [.val (.string a.caller), .val (.string a.callee), .val (.slice abase a.arcs.length acap)] 29)), (1, some (.cells r1 [.val (.string b.caller), .val (.string b.callee), .val (.slice bbase b.arcs.length bcap)] 29)), (2, some (.cells r2 [.val (.string ⟨#[]⟩), .val (.string ⟨#[]⟩), .val (.slice none 0 0)] 29)), (3, some (.cells r3 [.val (.string a.caller), .val (.string b.callee), .row 4 base ((cells a.arcs b.arcs (4 * i)).map Arc.v).length cap] 29)), (4, some (.row base cap 66 3 ((cells a.arcs b.arcs (4 * i)).map Arc.v)))], 5, μ, Mem.nil⟩) (fun p => 4 - p.1)
    (0, none, 0) (by simp) (fun (_, _, _) => ⟨rfl, rfl⟩) ⟨⟨⟨_, rfl, .inl rfl⟩, ⟨_, rfl, .inl rfl⟩, ⟨_, rfl, .inl rfl⟩, ⟨_, rfl, .inl rfl⟩, ⟨_, rfl, .inl rfl⟩, trivial⟩, ⟨.inl rfl, .inl rfl, .inl rfl, .inr (.inr ⟨_, _, _, _, rfl, rfl, .inl rfl, .inl rfl, .inr ⟨4, rfl, rfl, Nat.le_refl _⟩, trivial⟩), .inr (.inl ⟨_, _, rfl, Nat.le_refl _⟩), trivial⟩, rfl, rfl⟩ ?_
  rintro ⟨i, base, cap⟩ hi
  dsimp only at hi
  refine ifd (fun h => ?_) (fun h => ?_)
  rotate_left
  · obtain rfl : i = 4 := by omega
    first
      | exact ret_frz [4] fun μ' hle hno hrow => .inl (comp_fresh hle hno hrow)
      | exact ret_frz [4] fun μ' hle hno hrow => .inl ⟨_, by rw [decide_eq_true hc], by rw [Graph.res, if_pos hc]; exact comp_fresh hle hno hrow⟩
  refine loop_intro (fun p : Nat × Option Nat × Nat => p.1 ≤ 4) (fun (k, base, cap) => ⟨[(2, .loc 0 r0 0), (3, .loc 1 r1 0), (4, .loc 2 r2 0), (5, .loc 3 r3 0), (6, .val (.int .i64 i)), (7, .val (.int .i64 k))], [(0, some (.cells r0 [.val (.string a.caller), .val (.string a.callee), .val (.slice abase a.arcs.length acap)] 29)), (1, some (.cells r1 [.val (.string b.caller), .val (.string b.callee), .val (.slice bbase b.arcs.length bcap)] 29)), (2, some (.cells r2 [.val (.string ⟨#[]⟩), .val (.string ⟨#[]⟩), .val (.slice none 0 0)] 29)), (3, some (.cells r3 [.val (.string a.caller), .val (.string b.callee), .row 4 base ((cells a.arcs b.arcs (4 * i + k)).map Arc.v).length cap] 29)), (4, some (.row base cap 66 3 ((cells a.arcs b.arcs (4 * i + k)).map Arc.v)))], 5, μ, Mem.nil⟩) (fun p => 4 - p.1)
    (0, base, cap) (by simp) (fun (_, _, _) => ⟨rfl, rfl⟩) ⟨⟨rfl, rfl, rfl, rfl, rfl, rfl, trivial⟩, ⟨rfl, rfl, rfl, rfl, rfl, trivial⟩, rfl, rfl⟩ ?_
  rintro ⟨k, base, cap⟩ hk
  dsimp only at hk
  refine ifd (fun h2 => ?_) (fun h2 => ?_)
  rotate_left
  · obtain rfl : k = 4 := by omega
    exact num64 (by omega) (by omega) ⟨(i + 1, base, cap), by dsimp only; omega, by dsimp only; omega, ⟨⟨rfl, rfl, rfl, rfl, rfl, trivial⟩, ⟨rfl, rfl, rfl, rfl, rfl, trivial⟩, rfl, rfl⟩⟩
  refine loop_intro (fun p : Nat × Bool × Bool => p.1 ≤ a.arcs.length ∧ (p.2.1, p.2.2) = (a.arcs.take p.1).foldl (fun st x => b.arcs.foldl (cstep i k x) st) (false, false)) (fun (ix, f, s) => ⟨[(2, .loc 0 r0 0), (3, .loc 1 r1 0), (4, .loc 2 r2 0), (5, .loc 3 r3 0), (6, .val (.int .i64 i)), (7, .val (.int .i64 k)), (8, .val (.bool f)), (9, .val (.bool s)), (28, .val (.slice abase a.arcs.length acap)), (29, .val (.int .i64 a.arcs.length)), (30, .val (.int .i64 ix))], [(0, some (.cells r0 [.val (.string a.caller), .val (.string a.callee), .val (.slice abase a.arcs.length acap)] 29)), (1, some (.cells r1 [.val (.string b.caller), .val (.string b.callee), .val (.slice bbase b.arcs.length bcap)] 29)), (2, some (.cells r2 [.val (.string ⟨#[]⟩), .val (.string ⟨#[]⟩), .val (.slice none 0 0)] 29)), (3, some (.cells r3 [.val (.string a.caller), .val (.string b.callee), .row 4 base ((cells a.arcs b.arcs (4 * i + k)).map Arc.v).length cap] 29)), (4, some (.row base cap 66 3 ((cells a.arcs b.arcs (4 * i + k)).map Arc.v)))], 5, μ, Mem.nil⟩) (fun p => a.arcs.length - p.1)
    (0, false, false) ⟨by simp, by simp⟩ (fun (_, _, _) => ⟨rfl, rfl⟩) ⟨⟨rfl, rfl, rfl, rfl, rfl, rfl, rfl, rfl, rfl, rfl, rfl, trivial⟩, ⟨rfl, rfl, rfl, rfl, rfl, trivial⟩, rfl, rfl⟩ ?_
  rintro ⟨ix, f, s⟩ ⟨hix, hfs⟩
  dsimp only at hix hfs
  refine ifd (fun h3 => ?_) (fun h3 => ?_)
  rotate_left
  · obtain rfl : ix = a.arcs.length := by omega
    rw [List.take_length] at hfs
    have hcell : (f, s) = cell a.arcs b.arcs i k := hfs
    have hsucc := cells_succ a.arcs b.arcs i k (by omega)
    rw [← hcell] at hsucc
    have hlen := cells_len a.arcs b.arcs (4 * i + k)
    have hlen1 := cells_len a.arcs b.arcs (4 * i + (k + 1))
    refine if_intro (fun hf => ?_) (fun hf => ?_)
    · rw [if_pos hf] at hsucc
      intro r4
      refine grow_intro ?_ ?_ fun base' cap' _ => ?_
      · rw [List.length_map]; show (_ + 1) * 24 ≤ _; omega
      · rw [List.length_map]; show _ + 1 ≤ 9223372036854775807; omega
      exact num64 (by omega) (by omega) ⟨(k + 1, base', cap'), by dsimp only; omega, by dsimp only; omega, ⟨⟨rfl, rfl, rfl, rfl, rfl, rfl, trivial⟩, ⟨rfl, rfl, rfl, by rw [hsucc, List.map_append]; rfl, by rw [hsucc, List.map_append]; rfl, trivial⟩, rfl, rfl⟩⟩
    · rw [if_neg (by simp [hf]), List.append_nil] at hsucc
      exact num64 (by omega) (by omega) ⟨(k + 1, base, cap), by dsimp only; omega, by dsimp only; omega, ⟨⟨rfl, rfl, rfl, rfl, rfl, rfl, trivial⟩, ⟨rfl, rfl, rfl, by rw [hsucc]; rfl, by rw [hsucc]; rfl, trivial⟩, rfl, rfl⟩⟩
  obtain ⟨x, hx⟩ := at_some (l := a.arcs) (i := ix) (by omega)
  obtain ⟨xd, hxd⟩ := Arc.elem hsa hx
  refine elem_intro hxd ?_
  intro r5
  refine loop_intro (fun p : Nat × Bool × Bool => p.1 ≤ b.arcs.length ∧ (p.2.1, p.2.2) = (b.arcs.take p.1).foldl (cstep i k x) (f, s)) (fun (iy, f, s) => ⟨[(2, .loc 0 r0 0), (3, .loc 1 r1 0), (4, .loc 2 r2 0), (5, .loc 3 r3 0), (6, .val (.int .i64 i)), (7, .val (.int .i64 k)), (8, .val (.bool f)), (9, .val (.bool s)), (28, .val (.slice abase a.arcs.length acap)), (29, .val (.int .i64 a.arcs.length)), (30, .val (.int .i64 ix)), (11, .loc 5 r5 0), (35, .val (.slice bbase b.arcs.length bcap)), (36, .val (.int .i64 b.arcs.length)), (37, .val (.int .i64 iy))], [(0, some (.cells r0 [.val (.string a.caller), .val (.string a.callee), .val (.slice abase a.arcs.length acap)] 29)), (1, some (.cells r1 [.val (.string b.caller), .val (.string b.callee), .val (.slice bbase b.arcs.length bcap)] 29)), (2, some (.cells r2 [.val (.string ⟨#[]⟩), .val (.string ⟨#[]⟩), .val (.slice none 0 0)] 29)), (3, some (.cells r3 [.val (.string a.caller), .val (.string b.callee), .row 4 base ((cells a.arcs b.arcs (4 * i + k)).map Arc.v).length cap] 29)), (4, some (.row base cap 66 3 ((cells a.arcs b.arcs (4 * i + k)).map Arc.v))), (5, some (.cells r5 [.val (.int .i64 x.src), .val (.int .i64 x.dst), .val (.bool x.strict)] 66))], 6, μ, Mem.nil⟩) (fun p => b.arcs.length - p.1)
    (0, f, s) ⟨by simp, by simp⟩ (fun (_, _, _) => ⟨rfl, rfl⟩) ⟨⟨rfl, rfl, rfl, rfl, rfl, rfl, rfl, rfl, rfl, rfl, rfl, rfl, rfl, rfl, rfl, trivial⟩, ⟨rfl, rfl, rfl, rfl, rfl, rfl, trivial⟩, rfl, rfl⟩ ?_
  rintro ⟨iy, f2, s2⟩ ⟨hiy, hfs2⟩
  dsimp only at hiy hfs2
  refine ifd (fun h4 => ?_) (fun h4 => ?_)
  rotate_left
  · obtain rfl : iy = b.arcs.length := by omega
    rw [List.take_length] at hfs2
    exact num64 (by omega) (by omega) ⟨(ix + 1, f2, s2), ⟨by dsimp only; omega, by dsimp only; rw [hfs2, hfs, List.take_add_one, hx]; simp⟩, by dsimp only; omega, ⟨⟨rfl, rfl, rfl, rfl, rfl, rfl, rfl, rfl, rfl, rfl, rfl, trivial⟩, ⟨rfl, rfl, rfl, rfl, rfl, trivial⟩, rfl, rfl⟩⟩
  obtain ⟨y, hy⟩ := at_some (l := b.arcs) (i := iy) (by omega)
  obtain ⟨yd, hyd⟩ := Arc.elem hsb hy
  refine elem_intro hyd ?_
  intro r6
  have hstep : ∀ f3 s3, (f3, s3) = cstep i k x (f2, s2) y → (f3, s3) = (b.arcs.take (iy + 1)).foldl (cstep i k x) (f, s) := fun f3 s3 h => by rw [h, hfs2, List.take_add_one, hy]; simp
  repeat' (first
    | refine ifd (fun h => ?_) (fun h => ?_)
    | refine if_intro (fun h => ?_) (fun h => ?_))
  all_goals first
    | (refine num64 (by omega) (by omega) ⟨(iy + 1, true, true), ⟨by dsimp only; omega, hstep _ _ ?_⟩, by dsimp only; omega, ⟨⟨rfl, rfl, rfl, rfl, rfl, rfl, rfl, rfl, rfl, rfl, rfl, rfl, rfl, rfl, rfl, trivial⟩, ⟨rfl, rfl, rfl, rfl, rfl, rfl, trivial⟩, rfl, rfl⟩⟩; simp_all [cstep]; done)
    | (refine num64 (by omega) (by omega) ⟨(iy + 1, true, _), ⟨by dsimp only; omega, hstep _ _ ?_⟩, by dsimp only; omega, ⟨⟨rfl, rfl, rfl, rfl, rfl, rfl, rfl, rfl, rfl, rfl, rfl, rfl, rfl, rfl, rfl, trivial⟩, ⟨rfl, rfl, rfl, rfl, rfl, rfl, trivial⟩, rfl, rfl⟩⟩; simp_all [cstep]; done)
    | (refine num64 (by omega) (by omega) ⟨(iy + 1, f2, s2), ⟨by dsimp only; omega, hstep _ _ ?_⟩, by dsimp only; omega, ⟨⟨rfl, rfl, rfl, rfl, rfl, rfl, rfl, rfl, rfl, rfl, rfl, rfl, rfl, rfl, rfl, trivial⟩, ⟨rfl, rfl, rfl, rfl, rfl, rfl, trivial⟩, rfl, rfl⟩⟩; simp_all [cstep]; done)
def Graph.can (a b : Graph) : Prop := a.Ok ∧ b.Ok ∧ a.callee = b.caller
noncomputable def Graph.res (a b : Graph) : Graph := if a.can b then a.comp b else ⟨⟨#[]⟩, ⟨#[]⟩, []⟩
theorem spec_ComposeGraphs_spec {a b : Graph} {va vb : Value} (ha : RepV μ a.d va) (hb : RepV μ b.d vb) (s1 : a.caller.size ≤ maxLen) (s2 : a.callee.size ≤ maxLen) (s3 : b.caller.size ≤ maxLen) (s4 : b.callee.size ≤ maxLen) :
    Spec Try.prog 14 [va, vb] μ fun v μ' => ∃ gv, v = .tuple #[gv, .bool (decide (a.can b))] ∧ Fresh μ μ' (a.res b).d gv := by
  obtain ⟨abase, acap, rfl, hsa⟩ := Graph.inv ha
  obtain ⟨bbase, bcap, rfl, hsb⟩ := Graph.inv hb
  refine Spec.mk Try.func14 (by kernel_rfl) ?_
  intro r0 r1 r2
  have bad : ∀ s : St, s.mem = μ → ¬ a.can b → retVC s (.tuple #[.agg #[.string ⟨#[]⟩, .string ⟨#[]⟩, .slice none 0 0], .bool false]) fun v μ' _ => ∃ gv, v = .tuple #[gv, .bool (decide (a.can b))] ∧ Fresh μ μ' (a.res b).d gv := fun s hs h =>
    ret_plain ⟨.agg #[.string ⟨#[]⟩, .string ⟨#[]⟩, .slice none 0 0], by simp [h], by rw [Graph.res, if_neg h, hs]; exact zero_fresh⟩
  refine call_gives (spec_GraphOk_spec ha s1 s2) ?_
  refine ifnd (fun h => bad _ rfl fun k => h k.1) (fun h1 => ?_)
  refine call_gives (spec_GraphOk_spec hb s3 s4) ?_
  refine ifnd (fun h => bad _ rfl fun k => h k.2.1) (fun h2 => ?_)
  refine ifnd (fun h => bad _ rfl fun k => h k.2.2) (fun h3 => ?_)
  have hc : a.can b := ⟨h1, h2, h3⟩
  refine call_plain (l31Compose_spec ha hb) fun v μ' hle hf => ?_
  obtain ⟨b1, c1, rfl, hs1⟩ := Graph.inv hf.rep
  exact ret_plain ⟨_, by rw [decide_eq_true hc], by rw [Graph.res, if_pos hc]; exact hf⟩
set_option maxHeartbeats 4000000 in
theorem impl_ComposeGraphs_spec {a b : Graph} {va vb : Value} (ha : RepV μ a.d va) (hb : RepV μ b.d vb) :
    Spec Try.prog 15 [va, vb] μ fun v μ' => ∃ gv, v = .tuple #[gv, .bool (decide (a.can b))] ∧ Fresh μ μ' (a.res b).d gv := by
  obtain ⟨abase, acap, rfl, hsa⟩ := Graph.inv ha
  obtain ⟨bbase, bcap, rfl, hsb⟩ := Graph.inv hb
  have hma : a.arcs.length ≤ 9223372036854775807 := Nat.le_trans hsa.max (by decide)
  have hmb : b.arcs.length ≤ 9223372036854775807 := Nat.le_trans hsb.max (by decide)
  refine Spec.mk Try.func15 (by kernel_rfl) ?_
  intro r0 r1 r2
  have bad : ∀ s : St, s.mem = μ → ¬ a.can b → retVC s (.tuple #[.agg #[.string ⟨#[]⟩, .string ⟨#[]⟩, .slice none 0 0], .bool false]) fun v μ' _ => ∃ gv, v = .tuple #[gv, .bool (decide (a.can b))] ∧ Fresh μ μ' (a.res b).d gv := fun s hs h =>
    ret_plain ⟨.agg #[.string ⟨#[]⟩, .string ⟨#[]⟩, .slice none 0 0], by simp [h], by rw [Graph.res, if_neg h, hs]; exact zero_fresh⟩
  refine call_gives (impl_GraphOk_spec ha) ?_
  refine ifnd (fun h => bad _ rfl fun k => h k.1) (fun h1 => ?_)
  refine call_gives (impl_GraphOk_spec hb) ?_
  refine ifnd (fun h => bad _ rfl fun k => h k.2.1) (fun h2 => ?_)
  refine ifnd (fun h => bad _ rfl fun k => h k.2.2) (fun h3 => ?_)
  have hc : a.can b := ⟨h1, h2, h3⟩
  intro r3
  refine loop_nil (fun p : Nat × Option Nat × Nat => p.1 ≤ 4) (fun (i, base, cap) => ⟨[(2, .loc 0 r0 0), (3, .loc 1 r1 0), (4, .loc 2 r2 0), (6, .loc 3 r3 0), (7, .val (.int .i64 i))], [(0, some (.cells r0 [.val (.string a.caller), .val (.string a.callee), .val (.slice abase a.arcs.length acap)] 29)), (1, some (.cells r1 [.val (.string b.caller), .val (.string b.callee), .val (.slice bbase b.arcs.length bcap)] 29)), (2, some (.cells r2 [.val (.string ⟨#[]⟩), .val (.string ⟨#[]⟩), .val (.slice none 0 0)] 29)), (3, some (.cells r3 [.val (.string a.caller), .val (.string b.callee), .row 4 base ((cells a.arcs b.arcs (4 * i)).map Arc.v).length cap] 29)), (4, some (.row base cap 66 3 ((cells a.arcs b.arcs (4 * i)).map Arc.v)))], 5, μ, Mem.nil⟩) (fun p => 4 - p.1)
    (0, none, 0) (by simp) (fun (_, _, _) => ⟨rfl, rfl⟩) ⟨⟨⟨_, rfl, .inl rfl⟩, ⟨_, rfl, .inl rfl⟩, ⟨_, rfl, .inl rfl⟩, ⟨_, rfl, .inl rfl⟩, ⟨_, rfl, .inl rfl⟩, trivial⟩, ⟨.inl rfl, .inl rfl, .inl rfl, .inr (.inr ⟨_, _, _, _, rfl, rfl, .inl rfl, .inl rfl, .inr ⟨4, rfl, rfl, Nat.le_refl _⟩, trivial⟩), .inr (.inl ⟨_, _, rfl, Nat.le_refl _⟩), trivial⟩, rfl, rfl⟩ ?_
  rintro ⟨i, base, cap⟩ hi
  dsimp only at hi
  refine ifd (fun h => ?_) (fun h => ?_)
  rotate_left
  · obtain rfl : i = 4 := by omega
    first
      | exact ret_frz [4] fun μ' hle hno hrow => .inl (comp_fresh hle hno hrow)
      | exact ret_frz [4] fun μ' hle hno hrow => .inl ⟨_, by rw [decide_eq_true hc], by rw [Graph.res, if_pos hc]; exact comp_fresh hle hno hrow⟩
  refine loop_intro (fun p : Nat × Option Nat × Nat => p.1 ≤ 4) (fun (k, base, cap) => ⟨[(2, .loc 0 r0 0), (3, .loc 1 r1 0), (4, .loc 2 r2 0), (6, .loc 3 r3 0), (7, .val (.int .i64 i)), (8, .val (.int .i64 k))], [(0, some (.cells r0 [.val (.string a.caller), .val (.string a.callee), .val (.slice abase a.arcs.length acap)] 29)), (1, some (.cells r1 [.val (.string b.caller), .val (.string b.callee), .val (.slice bbase b.arcs.length bcap)] 29)), (2, some (.cells r2 [.val (.string ⟨#[]⟩), .val (.string ⟨#[]⟩), .val (.slice none 0 0)] 29)), (3, some (.cells r3 [.val (.string a.caller), .val (.string b.callee), .row 4 base ((cells a.arcs b.arcs (4 * i + k)).map Arc.v).length cap] 29)), (4, some (.row base cap 66 3 ((cells a.arcs b.arcs (4 * i + k)).map Arc.v)))], 5, μ, Mem.nil⟩) (fun p => 4 - p.1)
    (0, base, cap) (by simp) (fun (_, _, _) => ⟨rfl, rfl⟩) ⟨⟨rfl, rfl, rfl, rfl, rfl, rfl, trivial⟩, ⟨rfl, rfl, rfl, rfl, rfl, trivial⟩, rfl, rfl⟩ ?_
  rintro ⟨k, base, cap⟩ hk
  dsimp only at hk
  refine ifd (fun h2 => ?_) (fun h2 => ?_)
  rotate_left
  · obtain rfl : k = 4 := by omega
    exact num64 (by omega) (by omega) ⟨(i + 1, base, cap), by dsimp only; omega, by dsimp only; omega, ⟨⟨rfl, rfl, rfl, rfl, rfl, trivial⟩, ⟨rfl, rfl, rfl, rfl, rfl, trivial⟩, rfl, rfl⟩⟩
  refine loop_intro (fun p : Nat × Bool × Bool => p.1 ≤ a.arcs.length ∧ (p.2.1, p.2.2) = (a.arcs.take p.1).foldl (fun st x => b.arcs.foldl (cstep i k x) st) (false, false)) (fun (ix, f, s) => ⟨[(2, .loc 0 r0 0), (3, .loc 1 r1 0), (4, .loc 2 r2 0), (6, .loc 3 r3 0), (7, .val (.int .i64 i)), (8, .val (.int .i64 k)), (9, .val (.bool f)), (10, .val (.bool s)), (45, .val (.slice abase a.arcs.length acap)), (46, .val (.int .i64 a.arcs.length)), (47, .val (.int .i64 ix))], [(0, some (.cells r0 [.val (.string a.caller), .val (.string a.callee), .val (.slice abase a.arcs.length acap)] 29)), (1, some (.cells r1 [.val (.string b.caller), .val (.string b.callee), .val (.slice bbase b.arcs.length bcap)] 29)), (2, some (.cells r2 [.val (.string ⟨#[]⟩), .val (.string ⟨#[]⟩), .val (.slice none 0 0)] 29)), (3, some (.cells r3 [.val (.string a.caller), .val (.string b.callee), .row 4 base ((cells a.arcs b.arcs (4 * i + k)).map Arc.v).length cap] 29)), (4, some (.row base cap 66 3 ((cells a.arcs b.arcs (4 * i + k)).map Arc.v)))], 5, μ, Mem.nil⟩) (fun p => a.arcs.length - p.1)
    (0, false, false) ⟨by simp, by simp⟩ (fun (_, _, _) => ⟨rfl, rfl⟩) ⟨⟨rfl, rfl, rfl, rfl, rfl, rfl, rfl, rfl, rfl, rfl, rfl, trivial⟩, ⟨rfl, rfl, rfl, rfl, rfl, trivial⟩, rfl, rfl⟩ ?_
  rintro ⟨ix, f, s⟩ ⟨hix, hfs⟩
  dsimp only at hix hfs
  refine ifd (fun h3 => ?_) (fun h3 => ?_)
  rotate_left
  · obtain rfl : ix = a.arcs.length := by omega
    rw [List.take_length] at hfs
    have hcell : (f, s) = cell a.arcs b.arcs i k := hfs
    have hsucc := cells_succ a.arcs b.arcs i k (by omega)
    rw [← hcell] at hsucc
    have hlen := cells_len a.arcs b.arcs (4 * i + k)
    have hlen1 := cells_len a.arcs b.arcs (4 * i + (k + 1))
    refine if_intro (fun hf => ?_) (fun hf => ?_)
    · rw [if_pos hf] at hsucc
      intro r4
      refine grow_intro ?_ ?_ fun base' cap' _ => ?_
      · rw [List.length_map]; show (_ + 1) * 24 ≤ _; omega
      · rw [List.length_map]; show _ + 1 ≤ 9223372036854775807; omega
      exact num64 (by omega) (by omega) ⟨(k + 1, base', cap'), by dsimp only; omega, by dsimp only; omega, ⟨⟨rfl, rfl, rfl, rfl, rfl, rfl, trivial⟩, ⟨rfl, rfl, rfl, by rw [hsucc, List.map_append]; rfl, by rw [hsucc, List.map_append]; rfl, trivial⟩, rfl, rfl⟩⟩
    · rw [if_neg (by simp [hf]), List.append_nil] at hsucc
      exact num64 (by omega) (by omega) ⟨(k + 1, base, cap), by dsimp only; omega, by dsimp only; omega, ⟨⟨rfl, rfl, rfl, rfl, rfl, rfl, trivial⟩, ⟨rfl, rfl, rfl, by rw [hsucc]; rfl, by rw [hsucc]; rfl, trivial⟩, rfl, rfl⟩⟩
  obtain ⟨x, hx⟩ := at_some (l := a.arcs) (i := ix) (by omega)
  obtain ⟨xd, hxd⟩ := Arc.elem hsa hx
  refine elem_intro hxd ?_
  intro r5
  refine loop_intro (fun p : Nat × Bool × Bool => p.1 ≤ b.arcs.length ∧ (p.2.1, p.2.2) = (b.arcs.take p.1).foldl (cstep i k x) (f, s)) (fun (iy, f, s) => ⟨[(2, .loc 0 r0 0), (3, .loc 1 r1 0), (4, .loc 2 r2 0), (6, .loc 3 r3 0), (7, .val (.int .i64 i)), (8, .val (.int .i64 k)), (9, .val (.bool f)), (10, .val (.bool s)), (45, .val (.slice abase a.arcs.length acap)), (46, .val (.int .i64 a.arcs.length)), (47, .val (.int .i64 ix)), (12, .loc 5 r5 0), (52, .val (.slice bbase b.arcs.length bcap)), (53, .val (.int .i64 b.arcs.length)), (54, .val (.int .i64 iy))], [(0, some (.cells r0 [.val (.string a.caller), .val (.string a.callee), .val (.slice abase a.arcs.length acap)] 29)), (1, some (.cells r1 [.val (.string b.caller), .val (.string b.callee), .val (.slice bbase b.arcs.length bcap)] 29)), (2, some (.cells r2 [.val (.string ⟨#[]⟩), .val (.string ⟨#[]⟩), .val (.slice none 0 0)] 29)), (3, some (.cells r3 [.val (.string a.caller), .val (.string b.callee), .row 4 base ((cells a.arcs b.arcs (4 * i + k)).map Arc.v).length cap] 29)), (4, some (.row base cap 66 3 ((cells a.arcs b.arcs (4 * i + k)).map Arc.v))), (5, some (.cells r5 [.val (.int .i64 x.src), .val (.int .i64 x.dst), .val (.bool x.strict)] 66))], 6, μ, Mem.nil⟩) (fun p => b.arcs.length - p.1)
    (0, f, s) ⟨by simp, by simp⟩ (fun (_, _, _) => ⟨rfl, rfl⟩) ⟨⟨rfl, rfl, rfl, rfl, rfl, rfl, rfl, rfl, rfl, rfl, rfl, rfl, rfl, rfl, rfl, trivial⟩, ⟨rfl, rfl, rfl, rfl, rfl, rfl, trivial⟩, rfl, rfl⟩ ?_
  rintro ⟨iy, f2, s2⟩ ⟨hiy, hfs2⟩
  dsimp only at hiy hfs2
  refine ifd (fun h4 => ?_) (fun h4 => ?_)
  rotate_left
  · obtain rfl : iy = b.arcs.length := by omega
    rw [List.take_length] at hfs2
    exact num64 (by omega) (by omega) ⟨(ix + 1, f2, s2), ⟨by dsimp only; omega, by dsimp only; rw [hfs2, hfs, List.take_add_one, hx]; simp⟩, by dsimp only; omega, ⟨⟨rfl, rfl, rfl, rfl, rfl, rfl, rfl, rfl, rfl, rfl, rfl, trivial⟩, ⟨rfl, rfl, rfl, rfl, rfl, trivial⟩, rfl, rfl⟩⟩
  obtain ⟨y, hy⟩ := at_some (l := b.arcs) (i := iy) (by omega)
  obtain ⟨yd, hyd⟩ := Arc.elem hsb hy
  refine elem_intro hyd ?_
  intro r6
  have hstep : ∀ f3 s3, (f3, s3) = cstep i k x (f2, s2) y → (f3, s3) = (b.arcs.take (iy + 1)).foldl (cstep i k x) (f, s) := fun f3 s3 h => by rw [h, hfs2, List.take_add_one, hy]; simp
  repeat' (first
    | refine ifd (fun h => ?_) (fun h => ?_)
    | refine if_intro (fun h => ?_) (fun h => ?_))
  all_goals first
    | (refine num64 (by omega) (by omega) ⟨(iy + 1, true, true), ⟨by dsimp only; omega, hstep _ _ ?_⟩, by dsimp only; omega, ⟨⟨rfl, rfl, rfl, rfl, rfl, rfl, rfl, rfl, rfl, rfl, rfl, rfl, rfl, rfl, rfl, trivial⟩, ⟨rfl, rfl, rfl, rfl, rfl, rfl, trivial⟩, rfl, rfl⟩⟩; simp_all [cstep]; done)
    | (refine num64 (by omega) (by omega) ⟨(iy + 1, true, _), ⟨by dsimp only; omega, hstep _ _ ?_⟩, by dsimp only; omega, ⟨⟨rfl, rfl, rfl, rfl, rfl, rfl, rfl, rfl, rfl, rfl, rfl, rfl, rfl, rfl, rfl, trivial⟩, ⟨rfl, rfl, rfl, rfl, rfl, rfl, trivial⟩, rfl, rfl⟩⟩; simp_all [cstep]; done)
    | (refine num64 (by omega) (by omega) ⟨(iy + 1, f2, s2), ⟨by dsimp only; omega, hstep _ _ ?_⟩, by dsimp only; omega, ⟨⟨rfl, rfl, rfl, rfl, rfl, rfl, rfl, rfl, rfl, rfl, rfl, rfl, rfl, rfl, rfl, trivial⟩, ⟨rfl, rfl, rfl, rfl, rfl, rfl, trivial⟩, rfl, rfl⟩⟩; simp_all [cstep]; done)
end
end Go.Vx
