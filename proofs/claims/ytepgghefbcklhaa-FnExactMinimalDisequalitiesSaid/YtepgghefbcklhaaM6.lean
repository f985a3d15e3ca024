/- Texts of the proof, part 6: UVK Sp Sq Sr Qh Qi Qj. -/
import Derived.Test.YtepgghefbcklhaaM4
import Derived.Test.YtepgghefbcklhaaM3
import Derived.Test.YtepgghefbcklhaaM5
/- Contracts: the laws' own functions on values of the type VarKind: sizes, copies, equality, marks; what an argument reads. (By gen_types.py.) -/
namespace Go.Vx
open Go.Proofs Classical
structure VK where
  var : Int
  kind : Int
def VK.d (x : VK) : D := .st [.i x.var, .i x.kind]
theorem VK.d_eq (x : VK) : x.d = .st [.i x.var, .i x.kind] := rfl
theorem VK.d_n (x : VK) : x.d.n = 2 := by
  rw [VK.d_eq]
  simp only [D.n, D.ns]
abbrev VK.P := Unit
/-- The cells of a value. -/
def VK.cs (x : VK) (p : VK.P) : List Value := [.int .i64 x.var, .int .i64 x.kind]
section
variable {μ : Mem}
def VK.At (μ : Mem) (x : VK) (p : VK.P) : Prop := True
theorem VK.invA {x : VK} {cs : List Value} (h : Rep μ x.d cs) : ∃ p : VK.P, cs = x.cs p ∧ VK.At μ x p := by
  rw [VK.d_eq] at h
  obtain ⟨a0, t0, rfl, h0, h⟩ := h
  have h0 : a0 = [.int .i64 x.var] := h0
  subst h0
  obtain ⟨a1, t1, rfl, h1, h⟩ := h
  have h1 : a1 = [.int .i64 x.kind] := h1
  subst h1
  obtain rfl : t1 = [] := h
  exact ⟨(), by simp [VK.cs], trivial⟩
theorem VK.rep {x : VK} {cs : List Value} (h : Rep μ x.d cs) : RepV μ x.d (.agg cs.toArray) := by
  rw [VK.d_eq] at h ⊢; exact ⟨cs, rfl, h⟩
theorem VK.invR {x : VK} {cs : List Value} (h : Rep μ x.d cs) : ∃ p : VK.P, cs = x.cs p ∧ RepV μ x.d (.agg (x.cs p).toArray) := by
  obtain ⟨p, e, _⟩ := VK.invA h
  subst e
  exact ⟨p, rfl, VK.rep h⟩
theorem VK.inv {x : VK} {v : Value} (h : RepV μ x.d v) : ∃ p : VK.P, v = .agg #[.int .i64 x.var, .int .i64 x.kind] ∧ VK.At μ x p := by
  have h2 : ∃ cs, v = .agg (List.toArray cs) ∧ Rep μ x.d cs := by rw [VK.d_eq] at h ⊢; exact h
  obtain ⟨cs, rfl, h3⟩ := h2
  obtain ⟨p, rfl, hA⟩ := VK.invA h3
  exact ⟨p, rfl, hA⟩
theorem VK.invV {x : VK} {v : Value} (h : RepV μ x.d v) : ∃ p : VK.P, v = .agg #[.int .i64 x.var, .int .i64 x.kind] := by
  obtain ⟨p, h, _⟩ := VK.inv h
  exact ⟨p, h⟩
theorem VK.elemA {l : List VK} {base : Option Addr} {n : Nat} (h : Sl μ 2 base n (l.map VK.d)) {i : Nat} {x : VK} (hx : l[i]? = some x) : ∃ ad, ∃ p : VK.P, ElemAt μ base n 2 i ad (x.cs p) ∧ RepV μ x.d (.agg (x.cs p).toArray) ∧ VK.At μ x p := by
  obtain ⟨ad, cs, h1, h2⟩ := h.get i x.d (by simp [hx])
  obtain ⟨p, rfl, hA⟩ := VK.invA h2
  exact ⟨ad, p, h1, VK.rep h2, hA⟩
theorem VK.elem {l : List VK} {base : Option Addr} {n : Nat} (h : Sl μ 2 base n (l.map VK.d)) {i : Nat} {x : VK} (hx : l[i]? = some x) : ∃ ad, ∃ p : VK.P, ElemAt μ base n 2 i ad (x.cs p) ∧ RepV μ x.d (.agg (x.cs p).toArray) := by
  obtain ⟨ad, p, h1, h2, _⟩ := VK.elemA h hx
  exact ⟨ad, p, h1, h2⟩
theorem VK.ownR {x : VK} {h : Mem} {cs : List Value} (k : Own x.d h cs) : ∃ p : VK.P, cs = x.cs p ∧ h = Mem.nil := by
  rw [VK.d_eq] at k
  obtain ⟨a0, t0, h0, r0, rfl, q0, o0, k⟩ := k
  obtain ⟨rfl, rfl⟩ := o0
  obtain rfl := q0.eq (Parts.nil_left _)
  obtain ⟨a1, t1, h1, r1, rfl, q1, o1, k⟩ := k
  obtain ⟨rfl, rfl⟩ := o1
  obtain rfl := q1.eq (Parts.nil_left _)
  obtain ⟨rfl, rfl⟩ := k
  exact ⟨(), by simp [VK.cs], rfl⟩
theorem VK.sz_eq (x : VK) : x.d.sz = 0 := by
  rw [VK.d_eq]
  simp [D.sz, D.szs]
theorem VK.szs_zero : ∀ l : List VK, D.szs (l.map VK.d) = 0
  | [] => rfl
  | x :: l => by simp [D.szs, VK.sz_eq, VK.szs_zero l]
theorem szVarKindS_spec {l : List VK} {base : Option Addr} {cap : Nat} {left : Int} (hsl : Sl μ 2 base l.length (l.map VK.d)) (hl : 0 ≤ left) (hl2 : left ≤ 1048576) (hw : D.wds (l.map VK.d)) :
    Gives Try.prog 29 [.slice base l.length cap, .int .i64 left] μ (.int .i64 (szR left (l.length + D.szs (l.map VK.d)))) := by
  have hn := maxLen_le hsl.max
  rw [VK.szs_zero]
  refine Spec.mk Try.func29 (by kernel_rfl) ?_
  refine num64 (by omega) (by omega) (ifd (fun h => ret_gives (by rw [szR_neg (by omega)]) rfl) (fun h => ret_gives ?_ rfl))
  rw [szR_pos (by omega)]
  rfl
set_option maxRecDepth 4000 in
theorem toVarKind_spec (x : VK) {μ : Mem} {v : Value} (hv : RepV μ x.d v) (hb : x.d.sz ≤ 1048576) : Spec Try.prog 84 [v] μ fun v μ' => Fresh μ μ' x.d v := by
  obtain ⟨p, rfl, hA⟩ := VK.inv hv
  have hsz := VK.sz_eq x
  refine Spec.mk Try.func84 (by kernel_rfl) ?_
  intro r1 r2 r3
  rw [VK.d_eq]
  exact ret_plain (FreshS.st (FreshS.int (FreshS.int (FreshS.nil))))
theorem toVarKindS_of {l : List VK} (he : ∀ t ∈ l, ∀ {μ : Mem} {v : Value}, RepV μ t.d v → t.d.sz ≤ 1048576 → Spec Try.prog 84 [v] μ fun v μ' => Fresh μ μ' t.d v)
    {base : Option Addr} {cap : Nat} (hsl : Sl μ 2 base l.length (l.map VK.d)) (hb : l.length + D.szs (l.map VK.d) ≤ 1048576) :
    Spec Try.prog 31 [.slice base l.length cap] μ fun v μ' => Fresh μ μ' (.sl 2 (l.map VK.d)) v := by
  refine Spec.mk Try.func31 (by kernel_rfl) ?_
  refine make_intro l.length rfl rfl (by simp only; omega) (Nat.le_trans (m := 1048576) (by omega) (by decide)) ?_
  intro r
  refine loop_intro (fun p : Nat × List Value × Mem => μ.Le p.2.2 ∧ ∃ g, Filled 2 (.agg #[.int .i64 0, .int .i64 0]) μ p.2.2 (l.map VK.d) p.1 p.2.1 g)
    (fun (i, xs, μ') => ⟨[(0, .val (.slice base l.length cap)), (3, .row 0 (some r) l.length l.length), (4, .val (.int .i64 i))], [(0, some (.row (some r) l.length 122 2 xs))], 1, μ', Mem.nil⟩) (fun p => l.length - p.1)
    (0, List.replicate l.length (.agg #[.int .i64 0, .int .i64 0]), μ) ⟨Mem.Le.refl μ, _, Filled.start (by simp)⟩ (fun (_, _, _) => ⟨rfl, rfl⟩) ⟨⟨rfl, rfl, rfl, trivial⟩, ⟨rfl, trivial⟩, rfl, rfl⟩ ?_
  rintro ⟨i, xs, μ'⟩ ⟨hle, g, hf⟩
  dsimp only at hle hf
  have hi := hf.le
  have hlen := hf.len
  rw [List.length_map] at hi hlen
  refine ifd (fun h => ?_) (fun h => ?_)
  · obtain ⟨t, ht⟩ := at_some (l := l) (i := i) (by omega)
    have hx := at_map (f := VK.d) ht
    have hs := D.szs_mem hx
    obtain ⟨ad, p, hel, hr⟩ := VK.elem (hsl.mono hle) ht
    refine elem_intro hel (call_plain (he t (mem_at ht) hr (by omega)) fun v μ'' hle2 hfr => ?_)
    obtain ⟨g', hf'⟩ := hf.step hx (VK.d_n t) hfr hle2
    obtain ⟨p2, rfl⟩ := VK.invV hfr.rep
    refine rel_intro i rfl (by omega) ?_
    refine get_intro _ (hf.rest i (by omega) (by simpa using h)) ?_
    refine num64 (by omega) (by omega) ⟨(i + 1, _, μ''), ⟨hle.trans hle2, g', hf'⟩, by dsimp only; omega, ⟨⟨rfl, rfl, rfl, trivial⟩, ⟨rfl, trivial⟩, rfl, rfl⟩⟩
  · obtain rfl : i = l.length := by omega
    refine ret_frz [0] fun μ2 hle2 hno hrow => .inl ?_
    have := Fresh.ofRow (hf.all (by simp)) hf.sub hf.new hle hle2 hno hrow (Nat.le_trans (m := 1048576) (by omega) (by decide))
    rw [hlen] at this
    exact this
theorem toVarKindS_spec {l : List VK} {base : Option Addr} {cap : Nat} (hsl : Sl μ 2 base l.length (l.map VK.d)) (hb : l.length + D.szs (l.map VK.d) ≤ 1048576) :
    Spec Try.prog 31 [.slice base l.length cap] μ fun v μ' => Fresh μ μ' (.sl 2 (l.map VK.d)) v := toVarKindS_of (fun t _ _ _ => toVarKind_spec t) hsl hb
theorem eqVarKind_spec (x : VK) {v v' : Value} (hv : RepV μ x.d v) (hv' : RepV μ x.d v') : Gives Try.prog 87 [v, v'] μ (.bool true) := by
  obtain ⟨p, rfl, hA⟩ := VK.inv hv
  obtain ⟨p', rfl, hB⟩ := VK.inv hv'
  refine Spec.mk Try.func87 (by kernel_rfl) ?_
  intro r1 r2
  refine ifnd (fun h => absurd rfl h) (fun _ => ?_)
  refine ifnd (fun h => absurd rfl h) (fun _ => ?_)
  exact ret_gives rfl rfl
theorem eqVarKindS_of {l : List VK} (he : ∀ t ∈ l, ∀ {v v' : Value}, RepV μ t.d v → RepV μ t.d v' → Gives Try.prog 87 [v, v'] μ (.bool true))
    {base base' : Option Addr} {cap cap' : Nat} (hl : Sl μ 2 base l.length (l.map VK.d)) (hl' : Sl μ 2 base' l.length (l.map VK.d)) :
    Gives Try.prog 33 [.slice base l.length cap, .slice base' l.length cap'] μ (.bool true) := by
  have hn := maxLen_le hl.max
  refine Spec.mk Try.func33 (by kernel_rfl) ?_
  refine ifnd (fun h => absurd rfl h) (fun _ => ?_)
  refine loop_intro (fun i : Nat => i ≤ l.length) (fun i => ⟨[(0, .val (.slice base l.length cap)), (1, .val (.slice base' l.length cap')), (5, .val (.int .i64 i))], [], 0, μ, Mem.nil⟩) (fun i => l.length - i)
    0 (by omega) (fun i => ⟨rfl, rfl⟩) ⟨⟨rfl, rfl, rfl, trivial⟩, trivial, rfl, rfl⟩ ?_
  intro i hi
  refine ifd (fun h => ?_) (fun h => ?_)
  · obtain ⟨t, ht⟩ := at_some (l := l) (i := i) (by omega)
    obtain ⟨ad, p, hel, hr⟩ := VK.elem hl ht
    obtain ⟨ad', p', hel', hr'⟩ := VK.elem hl' ht
    refine elem_intro hel (elem_intro hel' (call_gives (he t (mem_at ht) hr hr') ?_))
    refine if_intro (fun h => nomatch h) (fun _ => ?_)
    exact num64 (by omega) (by omega) ⟨i + 1, by omega, by omega, ⟨⟨rfl, rfl, rfl, trivial⟩, trivial, rfl, rfl⟩⟩
  · exact ret_gives rfl rfl
theorem eqVarKindS_spec {l : List VK} {base base' : Option Addr} {cap cap' : Nat} (hl : Sl μ 2 base l.length (l.map VK.d)) (hl' : Sl μ 2 base' l.length (l.map VK.d)) :
    Gives Try.prog 33 [.slice base l.length cap, .slice base' l.length cap'] μ (.bool true) := eqVarKindS_of (fun t _ _ _ => eqVarKind_spec t) hl hl'
theorem VK.mk_eq (x : VK) (k : Int) : x.d.mk k = (.st [.i (k), .i (k + 1)], k + 1 + 1) := by
  rw [VK.d_eq]
  simp only [D.mk, D.mks]
theorem VK.cnt_eq (x : VK) : x.d.cnt = 2 := by
  rw [VK.d_eq]
  simp only [D.cnt, D.cnts]
set_option maxHeartbeats 1000000 in
theorem markVarKindS_spec {l : List VK} {h : Mem} {v : Value} {k : Int} (ho : OwnV (.sl 2 (l.map VK.d)) h v) (hk : 0 ≤ k) (hk2 : k + D.cnts (l.map VK.d) ≤ 9223372036854775807) :
    SpecH Try.prog 34 [v, .int .i64 k] μ h fun r μ' h' => r = .int .i64 (D.mks (l.map VK.d) k).2 ∧ μ' = μ ∧ OwnV (.sl 2 (D.mks (l.map VK.d) k).1) h' v := by
  obtain ⟨base, cap, e, hm, hn, ho⟩ := ho
  simp only [List.cons.injEq, and_true] at e
  subst e
  have hm' : (l.map VK.d).length ≤ 9223372036854775807 := Nat.le_trans hm.max (by decide)
  refine SpecH.mk [] Try.func34 (by kernel_rfl) ?_
  rcases ho with ⟨hnil, rfl⟩ | ⟨r, flat, rest, ty, h2, rfl, hr, rfl, ho⟩
  · rw [hnil]
    refine loop_intro (fun i : Nat => i = 0) (fun i => ⟨[(0, .val (.slice base 0 cap)), (1, .val (.int .i64 k)), (5, .val (.int .i64 i))], [], 0, μ, Mem.nil⟩) (fun i => 0 - i)
      0 rfl (fun i => ⟨rfl, rfl⟩) ⟨⟨rfl, rfl, rfl, trivial⟩, trivial, rfl, rfl⟩ ?_
    rintro i rfl
    refine ifd (fun h => by omega) (fun h => ret_plain ⟨rfl, rfl, base, cap, rfl, ⟨Nat.zero_le _, Nat.zero_le _⟩, by simp [D.mks], .inl ⟨rfl, rfl⟩⟩)
  · generalize hxs : l.map VK.d = xs at *
    refine loop_intro (fun p : Nat × List Value × List Value × Mem => Marking xs k rest r p.1 p.2.1 p.2.2.1 p.2.2.2)
      (fun (i, pre, tail, hh) => ⟨[(0, .val (.slice (some ⟨r, 0, none⟩) xs.length cap)), (1, .val (.int .i64 (D.mks (xs.take i) k).2)), (5, .val (.int .i64 i))], [], 0, μ, hh.set r (.cells (List.toArray (pre ++ tail)) ty (0, 0))⟩) (fun p => xs.length - p.1)
      (0, [], flat ++ rest, h2) (Marking.start hr ho) (fun (_, _, _, _) => ⟨rfl, rfl⟩) ⟨⟨rfl, rfl, rfl, trivial⟩, trivial, rfl, rfl⟩ ?_
    rintro ⟨i, pre, tail, hh⟩ M
    dsimp only at M
    have hi := M.le
    have hge := D.mks_cnt (xs.take i) k
    refine ifd (fun h => ?_) (fun h => ?_)
    · obtain ⟨x, ht⟩ := at_some (l := l) (i := i) (by rw [← hxs] at h; simp at h; omega)
      have hx : xs[i]? = some x.d := by rw [← hxs]; simp [ht]
      obtain ⟨c, g, m, c2, rfl, hown, hp, hmr, back⟩ := M.next hx
      obtain ⟨p, rfl, ch⟩ := VK.ownR hown
      have hlen := M.len hn
      have hcnt := Marking.cnt (k := k) hx
      rw [VK.cnt_eq] at hcnt
      generalize hk0 : (D.mks (xs.take i) k).2 = k0 at *
      subst ch
      have P0 := hp.symm
      have R0 := M.out
      refine ptr_intro ⟨r, 0, none⟩ rfl (by omega) (by omega) ?_
      refine sto_at (j := 0) (by simp [Addr.add_lit', hlen]) (by simp [VK.cs]) ?_
      refine num64 (by omega) (by omega) ?_
      refine ptr_intro ⟨r, 0, none⟩ rfl (by omega) (by omega) ?_
      refine sto_at (j := 1) (by simp [Addr.add_lit', hlen]) (by simp [VK.cs]) ?_
      refine num64 (by omega) (by omega) ?_
      obtain rfl := hp.eq (Parts.nil_left _)
      have hmk := D.mks_take hx k
      have hmk2 := VK.mk_eq x k0
      rw [hk0] at hmk
      refine num64 (by omega) (by omega) ⟨(i + 1, pre ++ [.int .i64 (k0), .int .i64 (k0 + 1)], c2 ++ rest, Mem.join Mem.nil hh), back _ _ (Apart.nil_left _) rfl ?_, by dsimp only; omega, ⟨⟨rfl, ?_, rfl, trivial⟩, trivial, rfl, ?_⟩⟩
      · rw [hmk2]
        exact OwnS.int (OwnS.int (OwnS.nil))
      · rw [hmk, hmk2]
        rfl
      · simp [VK.cs, Tm.cs, Bd.cs, Mem.nil_join]
    · have hi' : i = xs.length := by omega
      subst hi'
      obtain ⟨rfl, o1⟩ := M.last
      refine ret_plain ⟨by rw [List.take_length], rfl, some ⟨r, 0, none⟩, cap, by rw [D.mks_length], by rw [D.mks_length]; exact hm, D.mks_size k hn, .inr ⟨r, pre, tail, ty, hh, rfl, M.out, rfl, o1⟩⟩
set_option maxHeartbeats 1000000 in
theorem heldVarKindS_spec {l : List VK} {v : Value} {k : Int} (ho : RepV μ (.sl 2 (D.mks (l.map VK.d) k).1) v) (hk : 0 ≤ k) (hk2 : k + D.cnts (l.map VK.d) ≤ 9223372036854775807) :
    Gives Try.prog 35 [v, .int .i64 k] μ (.int .i64 (D.mks (l.map VK.d) k).2) := by
  obtain ⟨base, cap, rfl, hsl⟩ := Rep.sl ho
  have hm' := Nat.le_trans hsl.max (show maxLen ≤ 9223372036854775807 by decide)
  rw [D.mks_length] at hm' hsl ⊢
  refine Spec.mk Try.func35 (by kernel_rfl) ?_
  generalize hxs : l.map VK.d = xs at *
  refine loop_intro (fun i : Nat => i ≤ xs.length) (fun i => ⟨[(0, .val (.slice base xs.length cap)), (1, .val (.int .i64 (D.mks (xs.take i) k).2)), (5, .val (.int .i64 i))], [], 0, μ, Mem.nil⟩) (fun i => xs.length - i)
    0 (by simp) (fun i => ⟨rfl, rfl⟩) ⟨⟨rfl, rfl, rfl, trivial⟩, trivial, rfl, rfl⟩ ?_
  intro i hi
  have hge := D.mks_cnt (xs.take i) k
  refine ifd (fun h => ?_) (fun h => ?_)
  · obtain ⟨x, ht⟩ := at_some (l := l) (i := i) (by rw [← hxs] at h; simp at h; omega)
    have hx : xs[i]? = some x.d := by rw [← hxs]; simp [ht]
    have hcnt := Marking.cnt (k := k) hx
    rw [VK.cnt_eq] at hcnt
    obtain ⟨ad, cs, hel, hcs⟩ := hsl.get i _ (D.mks_get hx k)
    have hmk := D.mks_take hx k
    generalize hk0 : (D.mks (xs.take i) k).2 = k0 at *
    have hmk2 := VK.mk_eq x k0
    rw [hmk2] at hcs
    obtain ⟨_, _, rfl, rfl, _, _, rfl, rfl, rfl⟩ := hcs
    refine elem_intro hel ?_
    refine ifnd (fun h => absurd rfl h) fun _ => ?_
    refine num64 (by omega) (by omega) ?_
    refine elem_intro hel ?_
    refine ifnd (fun h => absurd rfl h) fun _ => ?_
    refine num64 (by omega) (by omega) ?_
    exact num64 (by omega) (by omega) ⟨i + 1, by omega, by omega, ⟨⟨rfl, by rw [hmk, hmk2]; rfl, rfl, trivial⟩, trivial, rfl, rfl⟩⟩
  · have hi' : i = xs.length := by omega
    subst hi'
    rw [List.take_length]
    exact ret_gives rfl rfl
theorem read_VarKind : Reads Try.prog 124 fun d => ∃ x : VK, d = x.d ∧ x.d.wd
  | 0 => ReadsTo.zero _
  | n + 1 => (reads_struct ti124 rfl (FieldsTo.cons ti3 (reads_int und_int n) (FieldsTo.cons ti3 (reads_int und_int n) FieldsTo.nil))).weaken fun d h => by
    obtain ⟨ds, rfl, h⟩ := h
    obtain ⟨_, _, rfl, ⟨x0, rfl, w0⟩, q0⟩ := h.cons
    obtain ⟨_, _, rfl, ⟨x1, rfl, w1⟩, q1⟩ := q0.cons
    obtain rfl := q1.nil
    refine ⟨.mk x0 x1, (VK.d_eq (.mk x0 x1)).symm, ?_⟩
    rw [VK.d_eq]
    exact ⟨w0, w1, trivial⟩
theorem read_VarKindS : Reads Try.prog 50 fun d => ∃ l : List VK, d = .sl 2 (l.map VK.d) ∧ D.wds (l.map VK.d) := fun n =>
  (reads_sl ti50.kind (cellsOf_tt ti124) (fun d h => by obtain ⟨a, rfl, _⟩ := h; exact VK.d_n a) read_VarKind n).weaken fun d h => by
    obtain ⟨xs, rfl, hx⟩ := h
    obtain ⟨l, rfl⟩ := lift_list (f := VK.d) fun x h => by obtain ⟨t, h, _⟩ := hx x h; exact ⟨t, h⟩
    exact ⟨l, rfl, D.wds_of fun x hm => by obtain ⟨t, rfl, h⟩ := hx x hm; exact h⟩
end
end Go.Vx

/- Contracts: kinds of variables: which lists are well-formed. -/
namespace Go.Vx
open Go.Proofs Classical
open Go.Sort
/-! ### Plain -/
def kokAt (l : List VK) (i : Nat) (k : VK) : Prop := (0 ≤ k.var ∧ k.var ≤ 100000) ∧ (k.kind = 2 ∨ k.kind = 3) ∧ ∀ j c, j + 1 = i → l[j]? = some c → c.var < k.var
def kindsOk (l : List VK) : Prop := ∀ i k, l[i]? = some k → kokAt l i k
def AscK (l : List VK) : Prop := l.Pairwise fun a b => a.var < b.var
def GoodK (k : VK) : Prop := (0 ≤ k.var ∧ k.var ≤ 100000) ∧ (k.kind = 2 ∨ k.kind = 3)
theorem AscK.at {l : List VK} (h : AscK l) : ∀ (i j : Nat) b c, i < j → l[i]? = some b → l[j]? = some c → b.var < c.var := fun i j b c hij hb hc => by
  rw [AscK, List.pairwise_iff_getElem] at h
  obtain ⟨hi, rfl⟩ := List.getElem?_eq_some_iff.1 hb
  obtain ⟨hj, rfl⟩ := List.getElem?_eq_some_iff.1 hc
  exact h i j hi hj hij
theorem AscK.of_at {l : List VK} (h : ∀ (i j : Nat) b c, i < j → l[i]? = some b → l[j]? = some c → b.var < c.var) : AscK l := by
  rw [AscK, List.pairwise_iff_getElem]
  intro i j hi hj hij
  exact h i j _ _ hij (by simp) (by simp)
theorem kindsOk.asc {l : List VK} (h : kindsOk l) : AscK l := AscK.of_at fun i j b c hij hb hc => by
  induction j generalizing c with
  | zero => omega
  | succ j ih =>
    have hj : j < l.length := by have := (List.getElem?_eq_some_iff.1 hc).1; omega
    obtain ⟨d, hd⟩ := at_some hj
    have h1 := (h (j + 1) c hc).2.2 j d rfl hd
    rcases Nat.lt_or_ge i j with h2 | h2
    · have := ih d h2 hd; omega
    · obtain rfl : i = j := by omega
      rw [hb] at hd; cases hd; exact h1
theorem kindsOk_iff (l : List VK) : kindsOk l ↔ AscK l ∧ ∀ k ∈ l, GoodK k := by
  constructor
  · intro h
    refine ⟨h.asc, fun k hk => ?_⟩
    obtain ⟨i, hi⟩ := List.mem_iff_getElem?.1 hk
    exact ⟨(h i k hi).1, (h i k hi).2.1⟩
  · rintro ⟨h1, h2⟩ i k hk
    have := h2 k (mem_at hk)
    exact ⟨this.1, this.2, fun j c hj hc => h1.at j i c k (by omega) hc hk⟩
theorem AscK.uniq {a b : VK} {l : List VK} (h : AscK l) (ha : a ∈ l) (hb : b ∈ l) (e : a.var = b.var) : a = b := by
  obtain ⟨i, hi⟩ := List.mem_iff_getElem?.1 ha
  obtain ⟨j, hj⟩ := List.mem_iff_getElem?.1 hb
  rcases Nat.lt_trichotomy i j with h1 | h1 | h1
  · have := h.at i j _ _ h1 hi hj; omega
  · subst h1; rw [hi] at hj; cases hj; rfl
  · have := h.at j i _ _ h1 hj hi; omega
noncomputable def sortK (l : List VK) : List VK := l.mergeSort fun a b => decide (a.var ≤ b.var)
theorem sortK_uniq {s l : List VK} (hp : s.Perm l) (hs : AscK s) : s = sortK l := by
  have h2 : (sortK l).Perm s := (List.mergeSort_perm l _).trans hp.symm
  refine List.Perm.eq_of_pairwise (le := fun a b : VK => a.var ≤ b.var) (fun a b ha hb h3 h4 => ?_) (hs.imp fun h => by omega) ?_ h2.symm
  · exact hs.uniq ha (h2.mem_iff.1 hb) (by omega)
  · have := List.pairwise_mergeSort (le := fun a b : VK => decide (a.var ≤ b.var)) (fun a b c h1 h2 => by simp only [decide_eq_true_eq] at *; omega) (fun a b => by simp only [Bool.or_eq_true, decide_eq_true_eq]; omega) l
    exact this.imp fun h => by simpa using h
theorem AscK.nodup {l : List VK} (h : AscK l) : (l.map VK.var).Nodup := by
  rw [List.Nodup, List.pairwise_map]
  exact h.imp fun h => by omega
theorem AscK.of_le {l : List VK} (h : l.Pairwise fun a b => a.var ≤ b.var) (hn : (l.map VK.var).Nodup) : AscK l := by
  rw [List.Nodup, List.pairwise_map] at hn
  exact h.and hn |>.imp fun ⟨h1, h2⟩ => by omega
theorem kinds_len {l : List VK} (h : kindsOk l) : l.length ≤ 100001 := by
  have h1 := h.asc.nodup
  have h2 := ((kindsOk_iff l).1 h).2
  have := nodup_range (N := 100001) h1 fun n hn => by
    obtain ⟨k, hk, rfl⟩ := List.mem_map.1 hn
    have := (h2 k hk).1
    omega
  simpa using this
/-- The kind that is asked of a variable. -/
noncomputable def lookK : List VK → Int → Option Int
  | [], _ => none
  | c :: r, n => if c.var = n then some c.kind else lookK r n
theorem lookK_none : ∀ {l : List VK} {n : Int}, (∀ c ∈ l, c.var ≠ n) → lookK l n = none
  | [], _, _ => rfl
  | c :: r, n, h => by rw [lookK, if_neg (h c (by simp)), lookK_none fun x hx => h x (by simp [hx])]
theorem lookK_at : ∀ {l : List VK} {n : Int} {i : Nat} {c : VK}, (∀ j d, j < i → l[j]? = some d → d.var ≠ n) → l[i]? = some c → c.var = n → lookK l n = some c.kind
  | [], _, _, _, _, h, _ => by simp at h
  | d :: r, n, 0, c, _, h, e => by
    simp only [List.getElem?_cons_zero, Option.some.injEq] at h
    subst h; rw [lookK, if_pos e]
  | d :: r, n, i + 1, c, hn, h, e => by
    rw [lookK, if_neg (hn 0 d (by omega) rfl)]
    exact lookK_at (i := i) (fun j x hj hx => hn (j + 1) x (by omega) (by simpa using hx)) (by simpa using h) e
theorem lookK_none_iff : ∀ {l : List VK} {n : Int}, lookK l n = none → ∀ c ∈ l, c.var ≠ n
  | [], _, _, c, hc => by simp at hc
  | d :: r, n, h, c, hc => by
    rw [lookK] at h
    split at h
    · cases h
    · rename_i e
      rcases List.mem_cons.1 hc with rfl | hc
      · exact e
      · exact lookK_none_iff h c hc
/-- A kind is asked of a term. -/
noncomputable def addK1 (l : List VK) (x : T) (k : Int) : Option (List VK) :=
  if x.tm.kind = 1 then (match lookK l x.tm.num with
    | some c => if c = k then some l else none
    | none => some (sortK (l ++ [⟨x.tm.num, k⟩])))
  else if x.tm.kind = k then some l else none
theorem addK1_ok {l l' : List VK} {x : T} {k : Int} (h : kindsOk l) (hx : x.good) (hk : k = 2 ∨ k = 3) (e : addK1 l x k = some l') : kindsOk l' ∧ ((∃ y, l'.Perm (l ++ [y])) ∨ l' = l) := by
  unfold addK1 at e
  split at e
  · rename_i h1
    split at e
    · split at e
      · cases e; exact ⟨h, .inr rfl⟩
      · cases e
    · rename_i hn
      cases e
      have hnum : 0 ≤ x.tm.num ∧ x.tm.num ≤ 100000 := by
        have := T.isVar.1 ⟨h1, (rfl : x.tm.num = x.tm.num)⟩
        rw [this] at hx; exact hx
      have hp : (sortK (l ++ [⟨x.tm.num, k⟩])).Perm (l ++ [⟨x.tm.num, k⟩]) := List.mergeSort_perm _ _
      obtain ⟨ha, hg⟩ := (kindsOk_iff l).1 h
      refine ⟨(kindsOk_iff _).2 ⟨AscK.of_le ?_ ((hp.map _).nodup_iff.2 ?_), fun c hc => ?_⟩, .inl ⟨_, hp⟩⟩
      · have := List.pairwise_mergeSort (le := fun a b : VK => decide (a.var ≤ b.var)) (fun a b c h1 h2 => by simp only [decide_eq_true_eq] at *; omega) (fun a b => by simp only [Bool.or_eq_true, decide_eq_true_eq]; omega) (l ++ [⟨x.tm.num, k⟩])
        exact this.imp fun h => by simpa using h
      · rw [List.map_append, List.nodup_append]
        refine ⟨ha.nodup, by simp, fun a ha b hb e => ?_⟩
        obtain ⟨c, hc, rfl⟩ := List.mem_map.1 ha
        simp only [List.map_cons, List.map_nil, List.mem_singleton] at hb
        exact lookK_none_iff hn c hc (e.trans hb)
      · rcases List.mem_append.1 (hp.mem_iff.1 hc) with hc | hc
        · exact hg c hc
        · rw [List.mem_singleton] at hc; subst hc; exact ⟨hnum, hk⟩
  · split at e
    · cases e; exact ⟨h, .inr rfl⟩
    · cases e
/-- A kind asked of a term under a substitution. -/
noncomputable def addK (s : List Bd) (l : List VK) (t : Tm) (k : Int) : Option (List VK) :=
  if substOk s ∧ t.Ok ∧ kindsOk l ∧ (k = 2 ∨ k = 3) then (fit (t.toT.subst (sub (s.map Bd.b)))).bind fun x => addK1 l x k else none
def optVK (P : List VK → Value → Prop) (o : Option (List VK)) (v : Value) : Prop := match o with
  | some l => ∃ tv, v = .tuple #[tv, .bool true] ∧ P l tv
  | none => v = .tuple #[.slice none 0 0, .bool false]
theorem vk_wd : ∀ {l : List VK}, (∀ k ∈ l, GoodK k) → D.wds (l.map VK.d)
  | [], _ => trivial
  | k :: l, h => by
    obtain ⟨⟨h1, h2⟩, h3⟩ := h k (by simp)
    exact ⟨⟨⟨show (-9223372036854775808 : Int) ≤ k.var by omega, show k.var ≤ (9223372036854775807 : Int) by omega⟩, ⟨show (-9223372036854775808 : Int) ≤ k.kind by omega, show k.kind ≤ (9223372036854775807 : Int) by omega⟩, trivial⟩, vk_wd fun y hy => h y (by simp [hy])⟩
section
variable {μ : Mem}
theorem impl_KindsOk_spec {l : List VK} {base : Option Addr} {cap : Nat} (hsl : Sl μ 2 base l.length (l.map VK.d)) : Gives Try.prog 85 [.slice base l.length cap] μ (.bool (decide (kindsOk l))) := by
  have hn := maxLen_le hsl.max
  refine Spec.mk Try.func85 (by kernel_rfl) ?_
  refine loop_intro (fun i : Nat => i ≤ l.length ∧ ∀ j k, j < i → l[j]? = some k → kokAt l j k) (fun i => ⟨[(0, .val (.slice base l.length cap)), (5, .val (.slice base l.length cap)), (6, .val (.int .i64 l.length)), (7, .val (.int .i64 i))], [], 0, μ, Mem.nil⟩) (fun i => l.length - i)
    0 ⟨by omega, fun j k hj => by omega⟩ (fun i => ⟨rfl, rfl⟩) ⟨⟨rfl, rfl, rfl, rfl, trivial⟩, trivial, rfl, rfl⟩ ?_
  rintro i ⟨hi, hall⟩
  refine ifd (fun h => ?_) (fun h => ?_)
  rotate_left
  · obtain rfl : i = l.length := by omega
    exact ret_gives (isT fun j k hk => hall j k (List.getElem?_eq_some_iff.1 hk).1 hk) rfl
  obtain ⟨x, hx⟩ := at_some (l := l) (i := i) (by omega)
  obtain ⟨ad, p, hel, hr⟩ := VK.elem hsl hx
  have bad : ¬ kokAt l i x → Value.bool false = .bool (decide (kindsOk l)) := fun k => isF fun hv => k (hv i x hx)
  have next : kokAt l i x → ∀ j k, j < i + 1 → l[j]? = some k → kokAt l j k := fun h0 j k hj hk => by
    rcases Nat.lt_or_ge j i with h6 | h6
    · exact hall j k h6 hk
    · obtain rfl : j = i := by omega
      rw [hx] at hk; cases hk; exact h0
  refine elem_intro hel ?_
  intro r
  refine ifd (fun h1 => ret_gives (bad fun k => by have := k.1.1; omega) rfl) (fun h1 => ?_)
  refine ifd (fun h2 => ret_gives (bad fun k => by have := k.1.2; omega) rfl) (fun h2 => ?_)
  refine ifnd (fun h5 => ?_) (fun h5 => ?_)
  · refine ifnd (fun h6 => ret_gives (bad fun k => by have := k.2.1; omega) rfl) (fun h6 => ?_)
    refine ifd (fun h0 => ?_) (fun h0 => ?_)
    · obtain ⟨c, hc⟩ := at_some (l := l) (i := i - 1) (by omega)
      obtain ⟨ad2, p2, hel2, _⟩ := VK.elem hsl hc
      have hprev : kokAt l i x → c.var < x.var := fun k => k.2.2 (i - 1) c (by omega) hc
      refine num_eq (x := ((i - 1 : Nat) : Int)) (by rw [wrap64 (by omega) (by omega)]; omega) ?_
      refine elem_intro hel2 ?_
      refine ifd (fun h1 => ret_gives (bad fun k => by have := hprev k; omega) rfl) (fun h4 => ?_)
      have hlt : ∀ j c', j + 1 = i → l[j]? = some c' → c'.var < x.var := fun j c' hj hc' => by
        have e : j = i - 1 := by omega
        rw [e, hc] at hc'
        cases hc'; omega
      refine num64 (by omega) (by omega) ⟨i + 1, ⟨by omega, next ⟨⟨by omega, by omega⟩, by omega, hlt⟩⟩, by omega, ⟨⟨rfl, rfl, rfl, rfl, trivial⟩, trivial, rfl, rfl⟩⟩
    · have hlt : ∀ j c', j + 1 = i → l[j]? = some c' → c'.var < x.var := fun j c' hj _ => by omega
      refine num64 (by omega) (by omega) ⟨i + 1, ⟨by omega, next ⟨⟨by omega, by omega⟩, by omega, hlt⟩⟩, by omega, ⟨⟨rfl, rfl, rfl, rfl, trivial⟩, trivial, rfl, rfl⟩⟩
  · refine ifd (fun h0 => ?_) (fun h0 => ?_)
    · obtain ⟨c, hc⟩ := at_some (l := l) (i := i - 1) (by omega)
      obtain ⟨ad2, p2, hel2, _⟩ := VK.elem hsl hc
      have hprev : kokAt l i x → c.var < x.var := fun k => k.2.2 (i - 1) c (by omega) hc
      refine num_eq (x := ((i - 1 : Nat) : Int)) (by rw [wrap64 (by omega) (by omega)]; omega) ?_
      refine elem_intro hel2 ?_
      refine ifd (fun h1 => ret_gives (bad fun k => by have := hprev k; omega) rfl) (fun h4 => ?_)
      have hlt : ∀ j c', j + 1 = i → l[j]? = some c' → c'.var < x.var := fun j c' hj hc' => by
        have e : j = i - 1 := by omega
        rw [e, hc] at hc'
        cases hc'; omega
      refine num64 (by omega) (by omega) ⟨i + 1, ⟨by omega, next ⟨⟨by omega, by omega⟩, by omega, hlt⟩⟩, by omega, ⟨⟨rfl, rfl, rfl, rfl, trivial⟩, trivial, rfl, rfl⟩⟩
    · have hlt : ∀ j c', j + 1 = i → l[j]? = some c' → c'.var < x.var := fun j c' hj _ => by omega
      refine num64 (by omega) (by omega) ⟨i + 1, ⟨by omega, next ⟨⟨by omega, by omega⟩, by omega, hlt⟩⟩, by omega, ⟨⟨rfl, rfl, rfl, rfl, trivial⟩, trivial, rfl, rfl⟩⟩
theorem spec_KindsOk_spec {l : List VK} {base : Option Addr} {cap : Nat} (hsl : Sl μ 2 base l.length (l.map VK.d)) : Gives Try.prog 82 [.slice base l.length cap] μ (.bool (decide (kindsOk l))) := by
  have hn := maxLen_le hsl.max
  refine Spec.mk Try.func82 (by kernel_rfl) ?_
  refine loop_intro (fun i : Nat => i ≤ l.length ∧ ∀ j k, j < i → l[j]? = some k → kokAt l j k) (fun i => ⟨[(0, .val (.slice base l.length cap)), (5, .val (.slice base l.length cap)), (6, .val (.int .i64 l.length)), (7, .val (.int .i64 i))], [], 0, μ, Mem.nil⟩) (fun i => l.length - i)
    0 ⟨by omega, fun j k hj => by omega⟩ (fun i => ⟨rfl, rfl⟩) ⟨⟨rfl, rfl, rfl, rfl, trivial⟩, trivial, rfl, rfl⟩ ?_
  rintro i ⟨hi, hall⟩
  refine ifd (fun h => ?_) (fun h => ?_)
  rotate_left
  · obtain rfl : i = l.length := by omega
    exact ret_gives (isT fun j k hk => hall j k (List.getElem?_eq_some_iff.1 hk).1 hk) rfl
  obtain ⟨x, hx⟩ := at_some (l := l) (i := i) (by omega)
  obtain ⟨ad, p, hel, hr⟩ := VK.elem hsl hx
  have bad : ¬ kokAt l i x → Value.bool false = .bool (decide (kindsOk l)) := fun k => isF fun hv => k (hv i x hx)
  have next : kokAt l i x → ∀ j k, j < i + 1 → l[j]? = some k → kokAt l j k := fun h0 j k hj hk => by
    rcases Nat.lt_or_ge j i with h6 | h6
    · exact hall j k h6 hk
    · obtain rfl : j = i := by omega
      rw [hx] at hk; cases hk; exact h0
  refine elem_intro hel ?_
  intro r
  refine ifd (fun h0 => ?_) (fun h0 => ?_)
  · obtain ⟨c, hc⟩ := at_some (l := l) (i := i - 1) (by omega)
    obtain ⟨ad2, p2, hel2, _⟩ := VK.elem hsl hc
    have hprev : kokAt l i x → c.var < x.var := fun k => k.2.2 (i - 1) c (by omega) hc
    refine num_eq (x := ((i - 1 : Nat) : Int)) (by rw [wrap64 (by omega) (by omega)]; omega) ?_
    refine elem_intro hel2 ?_
    refine ifd (fun h1 => ret_gives (bad fun k => by have := hprev k; omega) rfl) (fun h4 => ?_)
    have hlt : ∀ j c', j + 1 = i → l[j]? = some c' → c'.var < x.var := fun j c' hj hc' => by
      have e : j = i - 1 := by omega
      rw [e, hc] at hc'
      cases hc'; omega
    refine call_gives (l01In_spec _ _ _ _) ?_
    refine ifnd (fun h => ret_gives (bad fun k => h ⟨k.1.1, k.1.2⟩) rfl) (fun h3 => ?_)
    refine ifnd (fun h5 => ?_) (fun h5 => ?_)
    · refine ifnd (fun h6 => ret_gives (bad fun k => by have := k.2.1; omega) rfl) (fun h6 => ?_)
      refine num64 (by omega) (by omega) ⟨i + 1, ⟨by omega, next ⟨⟨by omega, by omega⟩, by omega, hlt⟩⟩, by omega, ⟨⟨rfl, rfl, rfl, rfl, trivial⟩, trivial, rfl, rfl⟩⟩
    · refine num64 (by omega) (by omega) ⟨i + 1, ⟨by omega, next ⟨⟨by omega, by omega⟩, by omega, hlt⟩⟩, by omega, ⟨⟨rfl, rfl, rfl, rfl, trivial⟩, trivial, rfl, rfl⟩⟩
  · have hlt : ∀ j c', j + 1 = i → l[j]? = some c' → c'.var < x.var := fun j c' hj _ => by omega
    refine call_gives (l01In_spec _ _ _ _) ?_
    refine ifnd (fun h => ret_gives (bad fun k => h ⟨k.1.1, k.1.2⟩) rfl) (fun h3 => ?_)
    refine ifnd (fun h5 => ?_) (fun h5 => ?_)
    · refine ifnd (fun h6 => ret_gives (bad fun k => by have := k.2.1; omega) rfl) (fun h6 => ?_)
      refine num64 (by omega) (by omega) ⟨i + 1, ⟨by omega, next ⟨⟨by omega, by omega⟩, by omega, hlt⟩⟩, by omega, ⟨⟨rfl, rfl, rfl, rfl, trivial⟩, trivial, rfl, rfl⟩⟩
    · refine num64 (by omega) (by omega) ⟨i + 1, ⟨by omega, next ⟨⟨by omega, by omega⟩, by omega, hlt⟩⟩, by omega, ⟨⟨rfl, rfl, rfl, rfl, trivial⟩, trivial, rfl, rfl⟩⟩
end
end Go.Vx

/- Contracts: a kind asked of a term: the reference's side. -/
namespace Go.Vx
open Go.Proofs Classical
open Go.Sort
theorem AscK.ins {l : List VK} {y : VK} {i : Nat} (h : AscK l) (hi : i ≤ l.length) (h1 : ∀ j c, j < i → l[j]? = some c → c.var < y.var) (h2 : ∀ j c, i ≤ j → l[j]? = some c → y.var < c.var) : AscK (insAt l y i) := by
  have g1 : ∀ a ∈ l.take i, a.var < y.var := fun a ha => by
    obtain ⟨j, hj⟩ := List.mem_iff_getElem?.1 ha
    have hji : j < i := by
      have := (List.getElem?_eq_some_iff.1 hj).1
      rw [List.length_take] at this; omega
    rw [List.getElem?_take_of_lt hji] at hj
    exact h1 j a hji hj
  have g2 : ∀ a ∈ l.drop i, y.var < a.var := fun a ha => by
    obtain ⟨j, hj⟩ := List.mem_iff_getElem?.1 ha
    rw [List.getElem?_drop] at hj
    exact h2 (i + j) a (by omega) hj
  unfold insAt AscK
  rw [List.pairwise_append, List.pairwise_append]
  refine ⟨h.sublist (List.take_sublist _ _), ⟨List.pairwise_singleton _ _, h.sublist (List.drop_sublist _ _), fun a ha c hc => ?_⟩, fun a ha c hc => ?_⟩
  · rw [List.mem_singleton] at ha; subst ha; exact g2 c hc
  · rcases List.mem_append.1 hc with hc | hc
    · rw [List.mem_singleton] at hc; subst hc; exact g1 a ha
    · have := g1 a ha; have := g2 c hc; omega
/-- The reference's answer: the list, and whether it holds. -/
def HasK (μ : Mem) (o : Option (List VK)) (r : Value) : Prop := ∃ tv b, r = .tuple #[tv, .bool b] ∧ (match o with
  | some l => b = true ∧ RepV μ (.sl 2 (l.map VK.d)) tv
  | none => b = false ∧ ∃ l : List VK, RepV μ (.sl 2 (l.map VK.d)) tv)
section
variable {μ : Mem}
theorem VK.repV (y : VK) : RepV μ y.d (.agg #[.int .i64 y.var, .int .i64 y.kind]) := by
  rw [VK.d_eq]
  exact ⟨_, rfl, RepS.int (RepS.int rfl)⟩
theorem Rep.srcAll {es n cap : Nat} {base : Option Addr} {ds : List D} (h : RepV μ (.sl es ds) (.slice base n cap)) : ∃ vs, Rows μ es ds vs ∧ vs.length = n ∧ SrcAt μ base n es vs := by
  obtain ⟨vs, hrows, hvl, hcap, hsrc⟩ := Rep.src h
  have := hsrc 0 n (Nat.zero_le _) (Nat.le_refl _)
  have e1 : (if cap = 0 then base else base.map (·.add (0 * es))) = base := by
    split
    · rfl
    · cases base with
      | none => rfl
      | some a => simp [Addr.add]
  rw [e1, Nat.sub_zero, List.drop_zero, List.take_of_length_le (by omega)] at this
  exact ⟨vs, hrows, hvl, this⟩
theorem l10Kind_spec {l : List VK} {x : T} {v vx : Value} {k : Int} (hv : RepV μ (.sl 2 (l.map VK.d)) v) (hx : RepV μ x.tm.d vx) (hok : kindsOk l) :
    Spec Try.prog 90 [v, vx, .int .i64 k] μ fun r μ' => HasK μ' (addK1 l x k) r := by
  have hlen := kinds_len hok
  have hasc := hok.asc
  have hv0 := hv
  obtain ⟨base, cap, rfl, hsl⟩ := Rep.sl hv
  rw [List.length_map] at hsl hv hv0 ⊢
  obtain ⟨ba, ca, rfl, _⟩ := T.inv hx
  obtain ⟨vs, hrows, hvl, hcap, hsrc⟩ := Rep.src hv
  refine Spec.mk Try.func90 (by kernel_rfl) ?_
  intro r4
  refine ifnd (fun h1 => ?_) (fun h1 => ?_)
  · refine ret_plain ⟨_, _, rfl, ?_⟩
    rw [addK1, if_neg h1]
    by_cases h2 : x.tm.kind = k
    · rw [if_pos h2]; exact ⟨decide_eq_true h2, hv0⟩
    · rw [if_neg h2]; exact ⟨decide_eq_false h2, l, hv0⟩
  refine loop_intro (fun i : Nat => i ≤ l.length ∧ ∀ j c, j < i → l[j]? = some c → c.var < x.tm.num)
    (fun i => ⟨[(0, .val (.slice base l.length cap)), (2, .val (.int .i64 k)), (4, .loc 0 r4 0), (8, .val (.int .i64 i))], [(0, some (.cells r4 [.val (.int .i64 x.tm.kind), .val (.int .i64 x.tm.num), .val (.string x.tm.name), .val (.slice ba x.args.length ca)] 66))], 1, μ, Mem.nil⟩) (fun i => l.length - i)
    0 ⟨by omega, fun j c hj => by omega⟩ (fun _ => ⟨rfl, rfl⟩) ⟨⟨rfl, rfl, rfl, rfl, trivial⟩, ⟨rfl, trivial⟩, rfl, rfl⟩ ?_
  rintro i ⟨hi, hlt⟩
  refine ifd (fun h2 => ?_) (fun h2 => ?_)
  · obtain ⟨c, hc⟩ := at_some (l := l) (i := i) (by omega)
    obtain ⟨ad, p, hel, _⟩ := VK.elem hsl hc
    refine elem_intro hel ?_
    refine ifd (fun h3 => ?_) (fun h3 => ?_)
    · refine num64 (by omega) (by omega) ⟨i + 1, ⟨by omega, fun j d hj hd => ?_⟩, by omega, ⟨⟨rfl, rfl, rfl, rfl, trivial⟩, ⟨rfl, trivial⟩, rfl, rfl⟩⟩
      rcases Nat.lt_or_ge j i with h6 | h6
      · exact hlt j d h6 hd
      · obtain rfl : j = i := by omega
        rw [hc] at hd; cases hd; exact h3
    refine ifd (fun _ => ?_) (fun h => absurd h2 h)
    refine elem_intro hel ?_
    refine ifd (fun h4 => ?_) (fun h4 => ?_)
    · have hlook : lookK l x.tm.num = some c.kind := lookK_at (i := i) (fun j d hj hd e => by have := hlt j d hj hd; omega) hc h4
      refine elem_intro hel ?_
      refine ret_plain ⟨_, _, rfl, ?_⟩
      rw [addK1, if_pos h1, hlook]
      dsimp only
      by_cases h5 : c.kind = k
      · rw [if_pos h5]; exact ⟨decide_eq_true h5, hv0⟩
      · rw [if_neg h5]; exact ⟨decide_eq_false h5, l, hv0⟩
    · have hgt : ∀ j d, i ≤ j → l[j]? = some d → x.tm.num < d.var := fun j d hj hd => by
        rcases Nat.lt_or_ge i j with h6 | h6
        · have := hasc.at i j c d h6 hc hd; omega
        · obtain rfl : j = i := by omega
          rw [hc] at hd; cases hd; omega
      have hlook : lookK l x.tm.num = none := lookK_none fun d hd e => by
        obtain ⟨j, hj⟩ := List.mem_iff_getElem?.1 hd
        rcases Nat.lt_or_ge j i with h6 | h6
        · have := hlt j d h6 hj; omega
        · have := hgt j d h6 hj; omega
      have hS : insAt l ⟨x.tm.num, k⟩ i = sortK (l ++ [⟨x.tm.num, k⟩]) := sortK_uniq (insAt_perm _ _ _) (hasc.ins hi hlt hgt)
      intro r0
      refine cut_intro 0 i rfl (by omega) (by omega) (by omega) ?_
      refine src_intro _ (hsrc 0 i (by omega) hi) ?_
      refine grow_intro ?_ ?_ fun b1 c1 _ => ?_
      · show (0 + _) * 16 ≤ _; simp; omega
      · exact Nat.le_trans (m := 2000000000) (by simp; omega) (by decide)
      intro r1
      refine grow_intro ?_ ?_ fun b2 c2 _ => ?_
      · show (_ + 1) * 16 ≤ _; simp; omega
      · exact Nat.le_trans (m := 2000000000) (by simp; omega) (by decide)
      refine cut_intro i l.length (by omega) rfl hi (by omega) ?_
      refine src_intro _ (hsrc i l.length hi (Nat.le_refl _)) ?_
      refine grow_intro ?_ ?_ fun b3 c3 _ => ?_
      · show (_ + _) * 16 ≤ _; simp; omega
      · exact Nat.le_trans (m := 3000000000) (by simp; omega) (by decide)
      refine ret_frz [1] fun μ' hle hno hrow => .inl ⟨_, _, rfl, ?_⟩
      rw [addK1, if_pos h1, hlook]
      dsimp only
      refine ⟨rfl, ?_⟩
      rw [← hS]
      have hr2 := ((hrows.take i).append ((Rows.one (VK.repV ⟨x.tm.num, k⟩) (VK.d_n _)).append (hrows.drop i))).mono hle
      have e : (([] : List Value) ++ (vs.drop 0).take (i - 0) ++ [.agg #[.int .i64 x.tm.num, .int .i64 k]] ++ (vs.drop i).take (l.length - i)) = vs.take i ++ ([.agg #[.int .i64 x.tm.num, .int .i64 k]] ++ vs.drop i) := by
        simp
        rw [List.take_of_length_le (by simp; omega)]
      rw [e] at hrow ⊢
      have e2 : (insAt l ⟨x.tm.num, k⟩ i).map VK.d = (l.map VK.d).take i ++ ([VK.d ⟨x.tm.num, k⟩] ++ (l.map VK.d).drop i) := by simp [insAt]
      rw [e2]
      exact Rows.sl hrow hr2 (Nat.le_trans (m := 3000000000) (by simp; omega) (by decide))
  · obtain rfl : i = l.length := by omega
    have hgt : ∀ j d, l.length ≤ j → l[j]? = some d → x.tm.num < d.var := fun j d hj hd => by
      have := (List.getElem?_eq_some_iff.1 hd).1; omega
    refine ifd (fun h => absurd h h2) (fun _ => ?_)
    obtain ⟨i, hie⟩ : ∃ i, i = l.length := ⟨_, rfl⟩
    have hi : i ≤ l.length := by omega
    rw [← hie] at hlt hgt
    have hcast : ((l.length : Nat) : Int) = (i : Int) := by rw [hie]
    have hlook : lookK l x.tm.num = none := lookK_none fun d hd e => by
      obtain ⟨j, hj⟩ := List.mem_iff_getElem?.1 hd
      rcases Nat.lt_or_ge j i with h6 | h6
      · have := hlt j d h6 hj; omega
      · have := hgt j d h6 hj; omega
    have hS : insAt l ⟨x.tm.num, k⟩ i = sortK (l ++ [⟨x.tm.num, k⟩]) := sortK_uniq (insAt_perm _ _ _) (hasc.ins hi hlt hgt)
    intro r0
    refine cut_intro 0 i rfl (by omega) (by omega) (by omega) ?_
    refine src_intro _ (hsrc 0 i (by omega) hi) ?_
    refine grow_intro ?_ ?_ fun b1 c1 _ => ?_
    · show (0 + _) * 16 ≤ _; simp; omega
    · exact Nat.le_trans (m := 2000000000) (by simp; omega) (by decide)
    intro r1
    refine grow_intro ?_ ?_ fun b2 c2 _ => ?_
    · show (_ + 1) * 16 ≤ _; simp; omega
    · exact Nat.le_trans (m := 2000000000) (by simp; omega) (by decide)
    refine cut_intro i l.length (by omega) rfl hi (by omega) ?_
    refine src_intro _ (hsrc i l.length hi (Nat.le_refl _)) ?_
    refine grow_intro ?_ ?_ fun b3 c3 _ => ?_
    · show (_ + _) * 16 ≤ _; simp; omega
    · exact Nat.le_trans (m := 3000000000) (by simp; omega) (by decide)
    refine ret_frz [1] fun μ' hle hno hrow => .inl ⟨_, _, rfl, ?_⟩
    rw [addK1, if_pos h1, hlook]
    dsimp only
    refine ⟨rfl, ?_⟩
    rw [← hS]
    have hr2 := ((hrows.take i).append ((Rows.one (VK.repV ⟨x.tm.num, k⟩) (VK.d_n _)).append (hrows.drop i))).mono hle
    have e : (([] : List Value) ++ (vs.drop 0).take (i - 0) ++ [.agg #[.int .i64 x.tm.num, .int .i64 k]] ++ (vs.drop i).take (l.length - i)) = vs.take i ++ ([.agg #[.int .i64 x.tm.num, .int .i64 k]] ++ vs.drop i) := by
      simp
      rw [List.take_of_length_le (by simp; omega)]
    rw [e] at hrow ⊢
    have e2 : (insAt l ⟨x.tm.num, k⟩ i).map VK.d = (l.map VK.d).take i ++ ([VK.d ⟨x.tm.num, k⟩] ++ (l.map VK.d).drop i) := by simp [insAt]
    rw [e2]
    exact Rows.sl hrow hr2 (Nat.le_trans (m := 3000000000) (by simp; omega) (by decide))
theorem appl_good {s : List Bd} {t : Tm} {x : T} (h1 : substOk s) (h2 : t.Ok) (h : fit (t.toT.subst (sub (s.map Bd.b))) = some x) : x.good := by
  obtain ⟨bs, rfl, hbs⟩ := h1.subst
  rw [B.map_b] at h
  obtain ⟨_, rfl⟩ := fit_some.1 h
  exact T.good_subst (fun n y hy => (sub_ok hbs.vals.tok hy).1) h2.toT.1.1
theorem spec_AddKind_spec {s : List Bd} {l : List VK} {t : Tm} {v : Value} {k : Int} {base base2 : Option Addr} {cap cap2 : Nat} (hs : Sl μ 5 base s.length (s.map Bd.d)) (hws : D.wds (s.map Bd.d)) (hl : RepV μ (.sl 2 (l.map VK.d)) (.slice base2 l.length cap2)) (ht : RepV μ t.d v) (hwt : t.d.wd) :
    Spec Try.prog 37 [.slice base s.length cap, .slice base2 l.length cap2, v, .int .i64 k] μ fun r μ' => optVK (fun y tv => RepV μ' (.sl 2 (y.map VK.d)) tv) (addK s l t k) r := by
  obtain ⟨pt, rfl⟩ := Tm.invV ht
  refine Spec.mk Try.func37 (by kernel_rfl) ?_
  intro r4
  refine call_plain (spec_ApplySubst_spec hs hws ht hwt) fun v1 μ1 hle1 hR => ?_
  cases hf : appl s t with
  | none =>
    rw [hf] at hR
    obtain rfl := hR
    intro r10
    refine if_intro (fun _ => ?_) (fun h => nomatch h)
    refine ret_plain ?_
    have : addK s l t k = none := by
      unfold addK
      split
      · rename_i h
        have e : appl s t = fit (t.toT.subst (sub (s.map Bd.b))) := by rw [appl, if_pos ⟨h.1, h.2.1⟩]
        rw [← e, hf]; rfl
      · rfl
    rw [this]; rfl
  | some x =>
    rw [hf] at hR
    obtain ⟨tv, rfl, htv⟩ := hR
    obtain ⟨q, rfl⟩ := Tm.invV htv
    intro r10
    refine if_intro (fun h => nomatch h) (fun _ => ?_)
    have hst : substOk s ∧ t.Ok ∧ fit (t.toT.subst (sub (s.map Bd.b))) = some x := by
      unfold appl at hf
      split at hf
      · rename_i h; exact ⟨h.1, h.2, hf⟩
      · cases hf
    have hlm := hl.mono hle1
    obtain ⟨bq, cq, eq1, hslq⟩ := Rep.sl hlm
    rw [List.length_map] at hslq eq1
    obtain ⟨rfl, _, rfl⟩ := Value.slice.inj eq1
    refine call_gives (spec_KindsOk_spec hslq) ?_
    refine ifnd (fun h => ret_plain (by rw [addK, if_neg fun k => h k.2.2.1]; rfl)) (fun hk => ?_)
    refine ifnd (fun h5 => ?_) (fun h5 => ?_)
    · refine ifnd (fun h6 => ret_plain (by rw [addK, if_neg fun k => by have := k.2.2.2; omega]; rfl)) (fun h6 => ?_)
      have hadd : addK s l t k = addK1 l x k := by rw [addK, if_pos ⟨hst.1, hst.2.1, hk, .inr h6⟩, hst.2.2]; rfl
      rw [hadd]
      refine call_plain (l10Kind_spec hlm htv hk) fun v2 μ2 hle2 hR2 => ?_
      obtain ⟨tv2, b, rfl, hR2⟩ := hR2
      cases ha : addK1 l x k with
      | none =>
        rw [ha] at hR2
        obtain ⟨rfl, _⟩ := hR2
        refine if_intro (fun _ => ?_) (fun h => nomatch h)
        exact ret_plain rfl
      | some l' =>
        rw [ha] at hR2
        obtain ⟨rfl, hR2⟩ := hR2
        refine if_intro (fun h => nomatch h) (fun _ => ?_)
        obtain ⟨b9, c9, rfl, hs9⟩ := Rep.sl hR2
        rw [List.length_map] at hs9 hR2 ⊢
        obtain ⟨vs, hrows, hvl, hsrc⟩ := Rep.srcAll hR2
        intro r44
        refine src_intro _ hsrc ?_
        have hl' := kinds_len (addK1_ok hk (appl_good hst.1 hst.2.1 hst.2.2) (by omega) ha).1
        refine grow_intro ?_ ?_ fun b1 c1 _ => ?_
        · show (0 + _) * 16 ≤ _; simp; omega
        · exact Nat.le_trans (m := 2000000000) (by simp; omega) (by decide)
        refine ret_frz [2] fun μ' hle hno hrow => .inl ⟨_, rfl, ?_⟩
        exact Rows.sl hrow (hrows.mono hle) (Nat.le_trans (m := 3000000000) (by simp; omega) (by decide))
    · have hadd : addK s l t k = addK1 l x k := by rw [addK, if_pos ⟨hst.1, hst.2.1, hk, .inl h5⟩, hst.2.2]; rfl
      rw [hadd]
      refine call_plain (l10Kind_spec hlm htv hk) fun v2 μ2 hle2 hR2 => ?_
      obtain ⟨tv2, b, rfl, hR2⟩ := hR2
      cases ha : addK1 l x k with
      | none =>
        rw [ha] at hR2
        obtain ⟨rfl, _⟩ := hR2
        refine if_intro (fun _ => ?_) (fun h => nomatch h)
        exact ret_plain rfl
      | some l' =>
        rw [ha] at hR2
        obtain ⟨rfl, hR2⟩ := hR2
        refine if_intro (fun h => nomatch h) (fun _ => ?_)
        obtain ⟨b9, c9, rfl, hs9⟩ := Rep.sl hR2
        rw [List.length_map] at hs9 hR2 ⊢
        obtain ⟨vs, hrows, hvl, hsrc⟩ := Rep.srcAll hR2
        intro r44
        refine src_intro _ hsrc ?_
        have hl' := kinds_len (addK1_ok hk (appl_good hst.1 hst.2.1 hst.2.2) (by omega) ha).1
        refine grow_intro ?_ ?_ fun b1 c1 _ => ?_
        · show (0 + _) * 16 ≤ _; simp; omega
        · exact Nat.le_trans (m := 2000000000) (by simp; omega) (by decide)
        refine ret_frz [2] fun μ' hle hno hrow => .inl ⟨_, rfl, ?_⟩
        exact Rows.sl hrow (hrows.mono hle) (Nat.le_trans (m := 3000000000) (by simp; omega) (by decide))
end
end Go.Vx

/- Contracts: a kind asked of a term: the program's side. -/
namespace Go.Vx
open Go.Proofs Classical
open Go.Sort
def VK.v (k : VK) : Value := .agg #[.int .i64 k.var, .int .i64 k.kind]
noncomputable instance : Inhabited VK := ⟨⟨0, 0⟩⟩
theorem slVarKind : SlTy 52 122 Try.t52 Try.t122 25 := ⟨by kernel_rfl, by kernel_rfl, by kernel_rfl, by kernel_rfl, fun _ => by kernel_rfl, by kernel_rfl⟩
def ltK (a b : VK) : Bool := decide (a.var < b.var)
theorem swo_ltK : SWO ltK := ⟨fun x => by simp [ltK], fun x y z h1 h2 => by simp only [ltK, decide_eq_true_eq] at *; omega, fun x y z h1 h2 => by simp only [ltK, decide_eq_false_iff_not] at *; omega⟩
theorem vks_els (l : List VK) : ∀ y ∈ l.map VK.v, (vcells y).length = 2 ∧ ∀ u ∈ vcells y, u.oneCell' = true := fun y hy => by
  obtain ⟨k, _, rfl⟩ := List.mem_map.1 hy
  refine ⟨rfl, fun u hu => ?_⟩
  simp only [VK.v, vcells, List.mem_cons, List.not_mem_nil, or_false] at hu
  rcases hu with rfl | rfl <;> rfl
theorem vks_own : ∀ l : List VK, OwnRows 2 (l.map VK.d) (l.map VK.v) Mem.nil
  | [] => OwnRows.nil 2
  | k :: l => by
    obtain ⟨h1, h2, h3⟩ := vks_own l
    refine ⟨?_, fun x hx => ?_, by simp⟩
    · simp only [List.map_cons, List.flatMap_cons]
      exact OwnS.cons (Parts.nil_left _) (by rw [VK.d_eq]; exact OwnS.int (OwnS.int OwnS.nil)) h1
    · simp only [List.map_cons, List.mem_cons] at hx
      rcases hx with rfl | hx
      · exact VK.d_n k
      · exact h2 x hx
section
variable {μ : Mem}
theorem vks_rows : ∀ {l : List VK} {ys : List Value}, Rows μ 2 (l.map VK.d) ys → ys = l.map VK.v
  | [], _, h => by cases h; rfl
  | k :: l, _, h => by
    cases h with
    | cons h1 h2 h3 =>
      obtain ⟨_, e⟩ := VK.invV h1
      rw [e, vks_rows h3]; rfl
/-- A row of kinds in owned memory is data that nobody else holds. -/
theorem vks_fresh {μ1 h : Mem} {r c : Nat} {ty : TypeId} {l : List VK} (hb : RowO h r c ty 2 (l.map VK.v)) (hap : Apart μ1 h) (hle : μ.Le μ1) (hn : l.length ≤ 100000000) : Fresh μ (μ1.join h) (.sl 2 (l.map VK.d)) (.slice (some ⟨r, 0, none⟩) l.length c) := by
  obtain ⟨cs, hcell, hlen0, hcap, hone, hcs, htake⟩ := hb
  have hb2 : μ1 r = none := by
    cases e : μ1 r with
    | none => rfl
    | some o => have := hap r (by simp [e]); rw [hcell] at this; cases this
  have := Fresh.ofRow (μ := μ) (μ1 := μ1) (μ' := μ1.join h) (b := some r) (cap := c) (vks_own l) (fun _ _ h => nomatch h) (fun _ h => absurd rfl h) hle (Mem.le_join _ _) (fun r' e => by cases e; exact hb2)
    ⟨hlen0, hone, _, _, by rw [Mem.join_get, hb2]; exact hcell, by simpa using hcs, by simpa using htake⟩ (Nat.le_trans (m := 100000000) (by simpa using hn) (by decide))
  rwa [List.length_map] at this
end
section
variable {μ h0 : Mem} {r : Nat} {ty : TypeId} {rest : List Value}
theorem AddKind1_spec {rs n cap i j : Nat} {d : Array VK} (hs : h0 rs = some (.cells #[.slice (some ⟨r, 0, none⟩) n cap] 52 (0, 0))) (hne : rs ≠ r) (hn : d.size = n) (hi : i < n) (hj : j < n) :
    SpecH Try.prog 94 [.int .i64 i, .int .i64 j, .pointer (some ⟨rs, 0, none⟩)] μ (RowV h0 r ty rest (d.map VK.v)) fun v μ' h' => v = .bool (ltK d[i]! d[j]!) ∧ μ' = μ ∧ h' = RowV h0 r ty rest (d.map VK.v) := by
  have hv : ∀ k, k < n → (vcells (d.map VK.v)[k]!)[0]? = some (.int .i64 d[k]!.var) := fun k hk => by
    rw [map_get (by omega)]; rfl
  have hE : Els 2 (d.map VK.v) := fun x hx => vks_els d.toList x (by simpa using hx)
  have hrs : RowV h0 r ty rest (d.map VK.v) rs = some (.cells #[.slice (some ⟨r, 0, none⟩) n cap] 52 (0, 0)) := (Mem.set_ne hne).trans hs
  refine SpecH.mk [] Try.func94 (by kernel_rfl) ?_
  refine own_intro [.slice (some ⟨r, 0, none⟩) n cap] rfl (box_at hrs) ?_
  refine idxV i rfl hi ?_
  refine rdV hE (by simpa [hn] using hi) (hv i hi) ?_
  refine own_intro [.slice (some ⟨r, 0, none⟩) n cap] rfl (box_at hrs) ?_
  refine idxV j rfl hj ?_
  refine rdV hE (by simpa [hn] using hj) (hv j hj) ?_
  exact ret_plain ⟨rfl, rfl, rfl⟩
end
section
variable {μ : Mem}
set_option maxHeartbeats 4000000 in
theorem impl_AddKind_spec {s : List Bd} {l : List VK} {t : Tm} {v : Value} {k : Int} {base base2 : Option Addr} {cap cap2 : Nat} (hs : Sl μ 5 base s.length (s.map Bd.d)) (hl : RepV μ (.sl 2 (l.map VK.d)) (.slice base2 l.length cap2)) (ht : RepV μ t.d v) :
    Spec Try.prog 39 [.slice base s.length cap, .slice base2 l.length cap2, v, .int .i64 k] μ fun r μ' => optVK (fun y tv => Fresh μ μ' (.sl 2 (y.map VK.d)) tv) (addK s l t k) r := by
  obtain ⟨pt, rfl⟩ := Tm.invV ht
  have hlm := hl
  obtain ⟨bq, cq, eq1, hslq⟩ := Rep.sl hlm
  rw [List.length_map] at hslq eq1
  obtain ⟨rfl, _, rfl⟩ := Value.slice.inj eq1
  refine Spec.mkO [44, 12] Try.func39 (by kernel_rfl) ?_
  intro r6
  refine call_gives (impl_SubstOk_spec hs) ?_
  refine ifnd (fun h => ret_plain (by rw [addK, if_neg fun k => h k.1]; rfl)) (fun h1 => ?_)
  refine call_gives (impl_TermOk_spec t ht) ?_
  refine ifnd (fun h => ret_plain (by rw [addK, if_neg fun k => h k.2.1]; rfl)) (fun h2 => ?_)
  refine call_gives (impl_KindsOk_spec hslq) ?_
  refine ifnd (fun h => ret_plain (by rw [addK, if_neg fun k => h k.2.2.1]; rfl)) (fun hk => ?_)
  refine ifnd (fun h5 => ?_) (fun h5 => ?_)
  · refine ifnd (fun h6 => ret_plain (by rw [addK, if_neg fun k => by have := k.2.2.2; omega]; rfl)) (fun h6 => ?_)
    have hkk : k = 2 ∨ k = 3 := .inr h6
    have hadd : addK s l t k = (fit (t.toT.subst (sub (s.map Bd.b)))).bind fun x => addK1 l x k := by rw [addK, if_pos ⟨h1, h2, hk, hkk⟩]
    rw [hadd]
    have hxg := fun x => appl_good (x := x) h1 h2
    clear hadd
    obtain ⟨x0, _, rfl⟩ := h2.lift
    obtain ⟨bs, rfl, hbs⟩ := h1.subst
    rw [List.length_map] at hs ⊢
    rw [T.toT_tm, B.map_b] at hxg ⊢
    have hlen := hbs.vals.len
    have hkl := kinds_len hk
    refine call_plain (put_spec x0 hbs.vals.srt (by omega) hbs.vals.tok hs ht) fun v1 μ1 hle1 hR => ?_
    cases hf : fit (x0.subst (sub bs)) with
    | none =>
      rw [hf] at hR
      obtain rfl := hR
      intro r10
      refine if_intro (fun _ => ?_) (fun h => nomatch h)
      exact ret_plain rfl
    | some x =>
      rw [hf] at hR
      rw [Option.bind_some]
      obtain ⟨tv, rfl, htv⟩ := hR
      obtain ⟨qb, qc, rfl, _⟩ := T.inv htv.rep
      intro r10
      refine if_intro (fun h => nomatch h) (fun _ => ?_)
      obtain ⟨ys, hrows, hyl, hsrc⟩ := Rep.srcAll (hl.mono hle1)
      obtain rfl := vks_rows hrows
      intro r44 hm44 ho44
      refine src_intro _ hsrc ?_
      refine app_intro [] rfl ⟨[], Mem.set_at _ _ _, by simp, by simp, by simp, rfl, rfl⟩ ?_ ?_ fun b1 c1 o1 hrow1 hor1 => ?_
      · show (0 + _) * 16 ≤ _; simp; omega
      · exact Nat.le_trans (m := 2000000000) (by simp; omega) (by decide)
      generalize hH1 : Mem.set (Mem.set _ r44 _) b1 o1 = H1
      have hB1 : RowO H1 b1 c1 122 2 (l.map VK.v) := by rw [← hH1]; exact hrow1
      have hap1 : Apart μ1 H1 := by
        rw [← hH1]
        refine ((apart_nil μ1).set hm44).set ?_
        rcases hor1 with rfl | h
        · exact hm44
        · exact h.2
      clear hrow1 hor1 hH1 hm44 ho44
      have hN : 0 + (l.map VK.v).length = l.length := by simp
      intro r12 hm12 ho12
      have hne : b1 ≠ r12 := fun e => by
        subst e
        obtain ⟨cs, h, _⟩ := hB1
        have : H1 b1 = none := ho12
        rw [h] at this; cases this
      refine sto_intro [.slice none 0 0] 52 (Mem.set_at _ _ _) rfl (Nat.le_refl _) ?_
      dsimp only at hm12 ho12
      generalize hH2 : Mem.set (Mem.set H1 r12 _) r12 _ = H
      have hB : RowO H b1 c1 122 2 (l.map VK.v) := by subst hH2; exact (hB1.set_ne hne).set_ne hne
      have hC : H r12 = some (.cells #[.slice (some ⟨b1, 0, none⟩) (0 + (l.map VK.v).length) c1] 52 (0, 0)) := by subst hH2; exact Mem.set_at _ _ _
      have hA : Apart μ1 H := by subst hH2; exact (hap1.set hm12).set hm12
      clear hH2 hB1 hap1 hm12 ho12
      refine ifnd (fun g1 => ?_) (fun g1 => ?_)
      · refine ifnd (fun g2 => ?_) (fun g2 => ?_)
        · refine ret_own _ Mem.nil (Parts.nil_right _) ?_
          rw [addK1, if_neg g1, if_neg g2]; rfl
        · refine own_intro [.slice (some ⟨b1, 0, none⟩) (0 + (l.map VK.v).length) c1] rfl (box_at hC) ?_
          refine ret_own _ Mem.nil (Parts.nil_right _) ?_
          rw [addK1, if_neg g1, if_pos g2]
          exact ⟨_, rfl, by rw [hN]; exact vks_fresh hB hA hle1 (by omega)⟩
      refine loop_intro (fun i : Nat => i ≤ l.length ∧ ∀ j c, j < i → l[j]? = some c → c.var ≠ x.tm.num)
        (fun i => ⟨[(3, .val (.int .i64 k)), (10, .loc 1 r10 0), (12, .val (.pointer (some ⟨r12, 0, none⟩))), (55, .val (.slice base2 l.length cap2)), (56, .val (.int .i64 l.length)), (57, .val (.int .i64 i))], [(1, some (.cells r10 [.val (.int .i64 x.tm.kind), .val (.int .i64 x.tm.num), .val (.string x.tm.name), .val (.slice qb x.args.length qc)] 66))], 2, μ1, H⟩) (fun i => l.length - i)
        0 ⟨by omega, fun j c hj => by omega⟩ (fun _ => ⟨rfl, rfl⟩) ⟨⟨rfl, rfl, rfl, rfl, rfl, rfl, trivial⟩, ⟨rfl, trivial⟩, rfl, rfl⟩ ?_
      rintro i ⟨hi, hno⟩
      refine ifd (fun hlt => ?_) (fun hlt => ?_)
      · obtain ⟨c, hc⟩ := at_some (l := l) (i := i) (by omega)
        obtain ⟨ad, p, hel, _⟩ := VK.elem (hslq.mono hle1) hc
        refine elem_intro hel ?_
        intro r14
        refine ifd (fun g2 => ?_) (fun g2 => ?_)
        · have hlook : lookK l x.tm.num = some c.kind := lookK_at (i := i) hno hc g2
          refine ifnd (fun g3 => ?_) (fun g3 => ?_)
          · refine ret_own _ Mem.nil (Parts.nil_right _) ?_
            rw [addK1, if_pos g1, hlook]
            dsimp only
            rw [if_neg g3]; rfl
          · refine own_intro [.slice (some ⟨b1, 0, none⟩) (0 + (l.map VK.v).length) c1] rfl (box_at hC) ?_
            refine ret_own _ Mem.nil (Parts.nil_right _) ?_
            rw [addK1, if_pos g1, hlook]
            dsimp only
            rw [if_pos g3]
            exact ⟨_, rfl, by rw [hN]; exact vks_fresh hB hA hle1 (by omega)⟩
        · refine num64 (by omega) (by omega) ⟨i + 1, ⟨by omega, fun j d hj hd => ?_⟩, by omega, ⟨⟨rfl, rfl, rfl, rfl, rfl, rfl, trivial⟩, ⟨rfl, trivial⟩, rfl, rfl⟩⟩
          rcases Nat.lt_or_ge j i with h6 | h6
          · exact hno j d h6 hd
          · obtain rfl : j = i := by omega
            rw [hc] at hd; cases hd; exact g2
      obtain rfl : i = l.length := by omega
      have hlook : lookK l x.tm.num = none := lookK_none fun d hd e => by
        obtain ⟨j, hj⟩ := List.mem_iff_getElem?.1 hd
        exact hno j d (List.getElem?_eq_some_iff.1 hj).1 hj e
      have hfin : addK1 l x k = some (sortK (l ++ [⟨x.tm.num, k⟩])) := by rw [addK1, if_pos g1, hlook]
      have hok := (addK1_ok hk (hxg x hf) hkk hfin).1
      rw [hfin]
      generalize hy : (⟨x.tm.num, k⟩ : VK) = y at *
      refine own_intro [.slice (some ⟨b1, 0, none⟩) (0 + (l.map VK.v).length) c1] rfl (box_at hC) ?_
      intro r77
      refine app_intro (l.map VK.v) (by simp) hB ?_ ?_ fun b2 c2 o2 hrow2 hor2 => ?_
      · show (_ + 1) * 16 ≤ _; omega
      · exact Nat.le_trans (m := 2000000000) (show _ + 1 ≤ _ by omega) (by decide)
      have hA2 : Apart μ1 (H.set b2 o2) := hA.set (apartB hB hA hor2)
      have hne2 : r12 ≠ b2 := fun e => by
        subst e
        rcases hor2 with e | ⟨e, _⟩
        · exact hne e.symm
        · have e : H r12 = none := e
          rw [hC] at e; cases e
      refine sto_intro [.slice (some ⟨b1, 0, none⟩) (0 + (l.map VK.v).length) c1] 52 ((Mem.set_ne hne2).trans hC) rfl (Nat.le_refl _) ?_
      have hrow3 : RowO (H.set b2 o2) b2 c2 122 2 ((l ++ [y]).map VK.v) := by
        subst hy
        rw [List.map_append]; exact hrow2
      obtain ⟨N2, hN2⟩ : ∃ N2, N2 = 0 + (l.map VK.v).length + 1 := ⟨_, rfl⟩
      generalize hH3 : Mem.set (Mem.set H b2 o2) r12 _ = H3
      have hB3 : RowO H3 b2 c2 122 2 ((l ++ [y]).map VK.v) := by subst hH3; exact hrow3.set_ne hne2.symm
      have hC3 : H3 r12 = some (.cells #[.slice (some ⟨b2, 0, none⟩) (0 + (l.map VK.v).length + 1) c2] 52 (0, 0)) := by subst hH3; exact Mem.set_at _ _ _
      have hA3 : Apart μ1 H3 := by
        subst hH3
        refine hA2.set ?_
        cases e : μ1 r12 with
        | none => rfl
        | some o => have := hA r12 (by simp [e]); rw [hC] at this; cases this
      clear hH3 hrow3 hA2 hrow2 hor2
      obtain ⟨cs, hcell, hlen0, hcap0, hone, hcs, htake⟩ := hB3
      obtain ⟨rest, rfl⟩ : ∃ rest, cs = ((l ++ [y]).map VK.v).flatMap vcells ++ rest := by
        refine ⟨cs.drop (((l ++ [y]).map VK.v).length * 2), ?_⟩
        conv => lhs; rw [← List.take_append_drop (((l ++ [y]).map VK.v).length * 2) cs, htake]
      obtain ⟨h0, hh0, hh1, hsplit⟩ : ∃ h0 : Mem, h0 b2 = none ∧ h0 r12 = H3 r12 ∧ H3 = RowV h0 b2 122 rest ((l ++ [y]).toArray.map VK.v) := by
        refine ⟨fun q => if q = b2 then none else H3 q, if_pos rfl, if_neg hne2, funext fun q => ?_⟩
        rw [RowV, Mem.set_get]
        by_cases e : q = b2
        · subst e; rw [if_pos rfl, hcell]; simp
        · rw [if_neg e, if_neg e]
      rw [hC3] at hh1
      have hC4 : RowV h0 b2 122 rest ((l ++ [y]).toArray.map VK.v) r12 = some (.cells #[.slice (some ⟨b2, 0, none⟩) (0 + (l.map VK.v).length + 1) c2] 52 (0, 0)) := (Mem.set_ne hne2).trans hh1
      clear hcell
      subst hsplit
      refine own_intro [.slice (some ⟨b2, 0, none⟩) (0 + (l.map VK.v).length + 1) c2] rfl (box_at hC4) ?_
      have hsz : (l ++ [y]).toArray.size = 0 + (l.map VK.v).length + 1 := by simp
      have hE : Els 2 ((l ++ [y]).toArray.map VK.v) := fun z hz => vks_els (l ++ [y]) z (by simpa using hz)
      refine call_own (SortSlice_spec (lb := [.pointer (some ⟨r12, 0, none⟩)]) (enc := VK.v) slVarKind (ttok.get rfl) (fun h => nomatch h) hE hsz (by omega) swo_ltK fun {μ' d i j} _ hV hi hj => AddKind1_spec hh1 hne2 (hV.1.trans hsz) hi hj) fun v5 μ2 h2' hle2 hap2 hR5 => ?_
      obtain ⟨rfl, d', p1, p2, rfl⟩ := hR5
      have hC5 : RowV h0 b2 122 rest (d'.map VK.v) r12 = some (.cells #[.slice (some ⟨b2, 0, none⟩) (0 + (l.map VK.v).length + 1) c2] 52 (0, 0)) := (Mem.set_ne hne2).trans hh1
      refine own_intro [.slice (some ⟨b2, 0, none⟩) (0 + (l.map VK.v).length + 1) c2] rfl (box_at hC5) ?_
      have hds : d'.size = 0 + (l.map VK.v).length + 1 := p1.1.trans hsz
      have hperm : d'.toList.Perm (l ++ [y]) := permIn_list hsz p1
      have hS : d'.toList = sortK (l ++ [y]) := by
        refine sortK_uniq hperm (AscK.of_le ?_ ((hperm.map _).nodup_iff.2 ?_))
        · rw [List.pairwise_iff_getElem]
          intro a b' ha hb' hab
          have ha : a < d'.size := by simpa using ha
          have hb' : b' < d'.size := by simpa using hb'
          have := p2 a b' (Nat.zero_le _) hab (by omega)
          rw [getElem!_pos d' a (by omega), getElem!_pos d' b' (by omega)] at this
          simp only [ltK, decide_eq_false_iff_not] at this
          simp only [Array.getElem_toList]
          exact Int.not_lt.1 this
        · rw [List.map_append, List.nodup_append]
          refine ⟨hk.asc.nodup, by simp, fun a ha b hb e => ?_⟩
          obtain ⟨c, hc, rfl⟩ := List.mem_map.1 ha
          simp only [List.map_cons, List.map_nil, List.mem_singleton] at hb
          subst hy
          exact lookK_none_iff hlook c hc (e.trans hb)
      rw [← hS]
      refine ret_own _ Mem.nil (Parts.nil_right _) ?_
      refine ⟨_, rfl, ?_⟩
      have hdl : d'.toList.length = 0 + (l.map VK.v).length + 1 := by simpa using hds
      have hB6 : RowO (RowV h0 b2 122 rest (d'.map VK.v)) b2 c2 122 2 (d'.toList.map VK.v) := by
        have h5 : (((l ++ [y]).map VK.v).flatMap vcells).length = ((l ++ [y]).map VK.v).length * 2 := flat_len _ fun z hz => (vks_els _ z hz).1
        have h6 : ((d'.toList.map VK.v).flatMap vcells).length = (d'.toList.map VK.v).length * 2 := flat_len _ fun z hz => (vks_els _ z hz).1
        have h7 : (d'.toList.map VK.v).length = ((l ++ [y]).map VK.v).length := by
          rw [List.length_map, List.length_map]; exact hperm.length_eq
        refine ⟨(d'.toList.map VK.v).flatMap vcells ++ rest, by rw [RowV, Mem.set_at]; simp, by rw [h7]; exact hlen0, hcap0, vks_els _, ?_, ?_⟩
        · rw [List.length_append] at hcs ⊢; omega
        · rw [← h6, List.take_left]
      have F := vks_fresh (μ := μ) hB6 hap2 (hle1.trans hle2) (by rw [hdl]; omega)
      rw [hdl] at F
      exact F
  · have hkk : k = 2 ∨ k = 3 := .inl h5
    have hadd : addK s l t k = (fit (t.toT.subst (sub (s.map Bd.b)))).bind fun x => addK1 l x k := by rw [addK, if_pos ⟨h1, h2, hk, hkk⟩]
    rw [hadd]
    have hxg := fun x => appl_good (x := x) h1 h2
    clear hadd
    obtain ⟨x0, _, rfl⟩ := h2.lift
    obtain ⟨bs, rfl, hbs⟩ := h1.subst
    rw [List.length_map] at hs ⊢
    rw [T.toT_tm, B.map_b] at hxg ⊢
    have hlen := hbs.vals.len
    have hkl := kinds_len hk
    refine call_plain (put_spec x0 hbs.vals.srt (by omega) hbs.vals.tok hs ht) fun v1 μ1 hle1 hR => ?_
    cases hf : fit (x0.subst (sub bs)) with
    | none =>
      rw [hf] at hR
      obtain rfl := hR
      intro r10
      refine if_intro (fun _ => ?_) (fun h => nomatch h)
      exact ret_plain rfl
    | some x =>
      rw [hf] at hR
      rw [Option.bind_some]
      obtain ⟨tv, rfl, htv⟩ := hR
      obtain ⟨qb, qc, rfl, _⟩ := T.inv htv.rep
      intro r10
      refine if_intro (fun h => nomatch h) (fun _ => ?_)
      obtain ⟨ys, hrows, hyl, hsrc⟩ := Rep.srcAll (hl.mono hle1)
      obtain rfl := vks_rows hrows
      intro r44 hm44 ho44
      refine src_intro _ hsrc ?_
      refine app_intro [] rfl ⟨[], Mem.set_at _ _ _, by simp, by simp, by simp, rfl, rfl⟩ ?_ ?_ fun b1 c1 o1 hrow1 hor1 => ?_
      · show (0 + _) * 16 ≤ _; simp; omega
      · exact Nat.le_trans (m := 2000000000) (by simp; omega) (by decide)
      generalize hH1 : Mem.set (Mem.set _ r44 _) b1 o1 = H1
      have hB1 : RowO H1 b1 c1 122 2 (l.map VK.v) := by rw [← hH1]; exact hrow1
      have hap1 : Apart μ1 H1 := by
        rw [← hH1]
        refine ((apart_nil μ1).set hm44).set ?_
        rcases hor1 with rfl | h
        · exact hm44
        · exact h.2
      clear hrow1 hor1 hH1 hm44 ho44
      have hN : 0 + (l.map VK.v).length = l.length := by simp
      intro r12 hm12 ho12
      have hne : b1 ≠ r12 := fun e => by
        subst e
        obtain ⟨cs, h, _⟩ := hB1
        have : H1 b1 = none := ho12
        rw [h] at this; cases this
      refine sto_intro [.slice none 0 0] 52 (Mem.set_at _ _ _) rfl (Nat.le_refl _) ?_
      dsimp only at hm12 ho12
      generalize hH2 : Mem.set (Mem.set H1 r12 _) r12 _ = H
      have hB : RowO H b1 c1 122 2 (l.map VK.v) := by subst hH2; exact (hB1.set_ne hne).set_ne hne
      have hC : H r12 = some (.cells #[.slice (some ⟨b1, 0, none⟩) (0 + (l.map VK.v).length) c1] 52 (0, 0)) := by subst hH2; exact Mem.set_at _ _ _
      have hA : Apart μ1 H := by subst hH2; exact (hap1.set hm12).set hm12
      clear hH2 hB1 hap1 hm12 ho12
      refine ifnd (fun g1 => ?_) (fun g1 => ?_)
      · refine ifnd (fun g2 => ?_) (fun g2 => ?_)
        · refine ret_own _ Mem.nil (Parts.nil_right _) ?_
          rw [addK1, if_neg g1, if_neg g2]; rfl
        · refine own_intro [.slice (some ⟨b1, 0, none⟩) (0 + (l.map VK.v).length) c1] rfl (box_at hC) ?_
          refine ret_own _ Mem.nil (Parts.nil_right _) ?_
          rw [addK1, if_neg g1, if_pos g2]
          exact ⟨_, rfl, by rw [hN]; exact vks_fresh hB hA hle1 (by omega)⟩
      refine loop_intro (fun i : Nat => i ≤ l.length ∧ ∀ j c, j < i → l[j]? = some c → c.var ≠ x.tm.num)
        (fun i => ⟨[(3, .val (.int .i64 k)), (10, .loc 1 r10 0), (12, .val (.pointer (some ⟨r12, 0, none⟩))), (55, .val (.slice base2 l.length cap2)), (56, .val (.int .i64 l.length)), (57, .val (.int .i64 i))], [(1, some (.cells r10 [.val (.int .i64 x.tm.kind), .val (.int .i64 x.tm.num), .val (.string x.tm.name), .val (.slice qb x.args.length qc)] 66))], 2, μ1, H⟩) (fun i => l.length - i)
        0 ⟨by omega, fun j c hj => by omega⟩ (fun _ => ⟨rfl, rfl⟩) ⟨⟨rfl, rfl, rfl, rfl, rfl, rfl, trivial⟩, ⟨rfl, trivial⟩, rfl, rfl⟩ ?_
      rintro i ⟨hi, hno⟩
      refine ifd (fun hlt => ?_) (fun hlt => ?_)
      · obtain ⟨c, hc⟩ := at_some (l := l) (i := i) (by omega)
        obtain ⟨ad, p, hel, _⟩ := VK.elem (hslq.mono hle1) hc
        refine elem_intro hel ?_
        intro r14
        refine ifd (fun g2 => ?_) (fun g2 => ?_)
        · have hlook : lookK l x.tm.num = some c.kind := lookK_at (i := i) hno hc g2
          refine ifnd (fun g3 => ?_) (fun g3 => ?_)
          · refine ret_own _ Mem.nil (Parts.nil_right _) ?_
            rw [addK1, if_pos g1, hlook]
            dsimp only
            rw [if_neg g3]; rfl
          · refine own_intro [.slice (some ⟨b1, 0, none⟩) (0 + (l.map VK.v).length) c1] rfl (box_at hC) ?_
            refine ret_own _ Mem.nil (Parts.nil_right _) ?_
            rw [addK1, if_pos g1, hlook]
            dsimp only
            rw [if_pos g3]
            exact ⟨_, rfl, by rw [hN]; exact vks_fresh hB hA hle1 (by omega)⟩
        · refine num64 (by omega) (by omega) ⟨i + 1, ⟨by omega, fun j d hj hd => ?_⟩, by omega, ⟨⟨rfl, rfl, rfl, rfl, rfl, rfl, trivial⟩, ⟨rfl, trivial⟩, rfl, rfl⟩⟩
          rcases Nat.lt_or_ge j i with h6 | h6
          · exact hno j d h6 hd
          · obtain rfl : j = i := by omega
            rw [hc] at hd; cases hd; exact g2
      obtain rfl : i = l.length := by omega
      have hlook : lookK l x.tm.num = none := lookK_none fun d hd e => by
        obtain ⟨j, hj⟩ := List.mem_iff_getElem?.1 hd
        exact hno j d (List.getElem?_eq_some_iff.1 hj).1 hj e
      have hfin : addK1 l x k = some (sortK (l ++ [⟨x.tm.num, k⟩])) := by rw [addK1, if_pos g1, hlook]
      have hok := (addK1_ok hk (hxg x hf) hkk hfin).1
      rw [hfin]
      generalize hy : (⟨x.tm.num, k⟩ : VK) = y at *
      refine own_intro [.slice (some ⟨b1, 0, none⟩) (0 + (l.map VK.v).length) c1] rfl (box_at hC) ?_
      intro r77
      refine app_intro (l.map VK.v) (by simp) hB ?_ ?_ fun b2 c2 o2 hrow2 hor2 => ?_
      · show (_ + 1) * 16 ≤ _; omega
      · exact Nat.le_trans (m := 2000000000) (show _ + 1 ≤ _ by omega) (by decide)
      have hA2 : Apart μ1 (H.set b2 o2) := hA.set (apartB hB hA hor2)
      have hne2 : r12 ≠ b2 := fun e => by
        subst e
        rcases hor2 with e | ⟨e, _⟩
        · exact hne e.symm
        · have e : H r12 = none := e
          rw [hC] at e; cases e
      refine sto_intro [.slice (some ⟨b1, 0, none⟩) (0 + (l.map VK.v).length) c1] 52 ((Mem.set_ne hne2).trans hC) rfl (Nat.le_refl _) ?_
      have hrow3 : RowO (H.set b2 o2) b2 c2 122 2 ((l ++ [y]).map VK.v) := by
        subst hy
        rw [List.map_append]; exact hrow2
      obtain ⟨N2, hN2⟩ : ∃ N2, N2 = 0 + (l.map VK.v).length + 1 := ⟨_, rfl⟩
      generalize hH3 : Mem.set (Mem.set H b2 o2) r12 _ = H3
      have hB3 : RowO H3 b2 c2 122 2 ((l ++ [y]).map VK.v) := by subst hH3; exact hrow3.set_ne hne2.symm
      have hC3 : H3 r12 = some (.cells #[.slice (some ⟨b2, 0, none⟩) (0 + (l.map VK.v).length + 1) c2] 52 (0, 0)) := by subst hH3; exact Mem.set_at _ _ _
      have hA3 : Apart μ1 H3 := by
        subst hH3
        refine hA2.set ?_
        cases e : μ1 r12 with
        | none => rfl
        | some o => have := hA r12 (by simp [e]); rw [hC] at this; cases this
      clear hH3 hrow3 hA2 hrow2 hor2
      obtain ⟨cs, hcell, hlen0, hcap0, hone, hcs, htake⟩ := hB3
      obtain ⟨rest, rfl⟩ : ∃ rest, cs = ((l ++ [y]).map VK.v).flatMap vcells ++ rest := by
        refine ⟨cs.drop (((l ++ [y]).map VK.v).length * 2), ?_⟩
        conv => lhs; rw [← List.take_append_drop (((l ++ [y]).map VK.v).length * 2) cs, htake]
      obtain ⟨h0, hh0, hh1, hsplit⟩ : ∃ h0 : Mem, h0 b2 = none ∧ h0 r12 = H3 r12 ∧ H3 = RowV h0 b2 122 rest ((l ++ [y]).toArray.map VK.v) := by
        refine ⟨fun q => if q = b2 then none else H3 q, if_pos rfl, if_neg hne2, funext fun q => ?_⟩
        rw [RowV, Mem.set_get]
        by_cases e : q = b2
        · subst e; rw [if_pos rfl, hcell]; simp
        · rw [if_neg e, if_neg e]
      rw [hC3] at hh1
      have hC4 : RowV h0 b2 122 rest ((l ++ [y]).toArray.map VK.v) r12 = some (.cells #[.slice (some ⟨b2, 0, none⟩) (0 + (l.map VK.v).length + 1) c2] 52 (0, 0)) := (Mem.set_ne hne2).trans hh1
      clear hcell
      subst hsplit
      refine own_intro [.slice (some ⟨b2, 0, none⟩) (0 + (l.map VK.v).length + 1) c2] rfl (box_at hC4) ?_
      have hsz : (l ++ [y]).toArray.size = 0 + (l.map VK.v).length + 1 := by simp
      have hE : Els 2 ((l ++ [y]).toArray.map VK.v) := fun z hz => vks_els (l ++ [y]) z (by simpa using hz)
      refine call_own (SortSlice_spec (lb := [.pointer (some ⟨r12, 0, none⟩)]) (enc := VK.v) slVarKind (ttok.get rfl) (fun h => nomatch h) hE hsz (by omega) swo_ltK fun {μ' d i j} _ hV hi hj => AddKind1_spec hh1 hne2 (hV.1.trans hsz) hi hj) fun v5 μ2 h2' hle2 hap2 hR5 => ?_
      obtain ⟨rfl, d', p1, p2, rfl⟩ := hR5
      have hC5 : RowV h0 b2 122 rest (d'.map VK.v) r12 = some (.cells #[.slice (some ⟨b2, 0, none⟩) (0 + (l.map VK.v).length + 1) c2] 52 (0, 0)) := (Mem.set_ne hne2).trans hh1
      refine own_intro [.slice (some ⟨b2, 0, none⟩) (0 + (l.map VK.v).length + 1) c2] rfl (box_at hC5) ?_
      have hds : d'.size = 0 + (l.map VK.v).length + 1 := p1.1.trans hsz
      have hperm : d'.toList.Perm (l ++ [y]) := permIn_list hsz p1
      have hS : d'.toList = sortK (l ++ [y]) := by
        refine sortK_uniq hperm (AscK.of_le ?_ ((hperm.map _).nodup_iff.2 ?_))
        · rw [List.pairwise_iff_getElem]
          intro a b' ha hb' hab
          have ha : a < d'.size := by simpa using ha
          have hb' : b' < d'.size := by simpa using hb'
          have := p2 a b' (Nat.zero_le _) hab (by omega)
          rw [getElem!_pos d' a (by omega), getElem!_pos d' b' (by omega)] at this
          simp only [ltK, decide_eq_false_iff_not] at this
          simp only [Array.getElem_toList]
          exact Int.not_lt.1 this
        · rw [List.map_append, List.nodup_append]
          refine ⟨hk.asc.nodup, by simp, fun a ha b hb e => ?_⟩
          obtain ⟨c, hc, rfl⟩ := List.mem_map.1 ha
          simp only [List.map_cons, List.map_nil, List.mem_singleton] at hb
          subst hy
          exact lookK_none_iff hlook c hc (e.trans hb)
      rw [← hS]
      refine ret_own _ Mem.nil (Parts.nil_right _) ?_
      refine ⟨_, rfl, ?_⟩
      have hdl : d'.toList.length = 0 + (l.map VK.v).length + 1 := by simpa using hds
      have hB6 : RowO (RowV h0 b2 122 rest (d'.map VK.v)) b2 c2 122 2 (d'.toList.map VK.v) := by
        have h5 : (((l ++ [y]).map VK.v).flatMap vcells).length = ((l ++ [y]).map VK.v).length * 2 := flat_len _ fun z hz => (vks_els _ z hz).1
        have h6 : ((d'.toList.map VK.v).flatMap vcells).length = (d'.toList.map VK.v).length * 2 := flat_len _ fun z hz => (vks_els _ z hz).1
        have h7 : (d'.toList.map VK.v).length = ((l ++ [y]).map VK.v).length := by
          rw [List.length_map, List.length_map]; exact hperm.length_eq
        refine ⟨(d'.toList.map VK.v).flatMap vcells ++ rest, by rw [RowV, Mem.set_at]; simp, by rw [h7]; exact hlen0, hcap0, vks_els _, ?_, ?_⟩
        · rw [List.length_append] at hcs ⊢; omega
        · rw [← h6, List.take_left]
      have F := vks_fresh (μ := μ) hB6 hap2 (hle1.trans hle2) (by rw [hdl]; omega)
      rw [hdl] at F
      exact F
end
end Go.Vx

/- Contracts: the least disequalities, the program's side. -/
namespace Go.Vx
open Go.Proofs Classical
open Go.Sort
section
variable {μ : Mem}
theorem copyBindings_spec {bs : List B} {base : Option Addr} {cap : Nat} (hsl : Sl μ 5 base bs.length ((bs.map B.bd).map Bd.d)) (hn : bs.length ≤ 1000000) :
    Spec Try.prog 66 [.slice base bs.length cap] μ fun v μ' => Fresh μ μ' (.sl 5 ((bs.map B.bd).map Bd.d)) v := by
  refine Spec.mkO [6] Try.func66 (by kernel_rfl) ?_
  intro r6 hm6 ho6
  refine loop_intro (fun p : Nat × Nat × Nat × Nat × List Value × Mem × Mem => p.1 ≤ bs.length ∧ p.2.2.2.2.1.length = p.2.2.2.1 ∧ RowO p.2.2.2.2.2.2 p.2.1 p.2.2.1 109 5 p.2.2.2.2.1 ∧ Apart p.2.2.2.2.2.1 p.2.2.2.2.2.2 ∧ μ.Le p.2.2.2.2.2.1 ∧ Grown 5 μ p.2.2.2.2.2.1 (((bs.take p.1).map B.bd).map Bd.d) p.2.2.2.2.1)
    (fun (i, b, c, m, ys, μ', h) => ⟨[(3, .val (.slice (some ⟨b, 0, none⟩) m c)), (7, .val (.slice base bs.length cap)), (8, .val (.int .i64 bs.length)), (9, .val (.int .i64 i))], [], 0, μ', h⟩) (fun p => bs.length - p.1)
    (0, r6, 0, 0, [], μ, _) ⟨by simp, rfl, ⟨[], Mem.set_at _ _ _, by simp, by simp, by simp, rfl, rfl⟩, (apart_nil μ).set hm6, Mem.Le.refl _, Grown.nil _ _ _⟩ (fun (_, _, _, _, _, _, _) => ⟨rfl, rfl⟩) ⟨⟨rfl, rfl, rfl, rfl, trivial⟩, trivial, rfl, rfl⟩ ?_
  clear hm6 ho6
  rintro ⟨i, b, c, m, ys, μ', h⟩ ⟨hi, hm, hb, hap, hle, hgr⟩
  dsimp only at hi hm hb hap hle hgr
  have hyl := hgr.len
  simp only [List.length_map, List.length_take] at hyl
  refine ifd (fun hlt => ?_) (fun hlt => ?_)
  · obtain ⟨x, hx⟩ := at_some (l := bs) (i := i) (by omega)
    obtain ⟨ad, p, hel, hto⟩ := B.elem (hsl.mono hle) hx
    refine elem_intro hel ?_
    intro r5
    refine call_data hap (copyTerm_spec x.to hto) fun v1 μ1 hle1 hap1 hR => ?_
    obtain ⟨q, rfl⟩ := Tm.invV hR.rep
    intro r20
    refine app_intro ys hm hb ?_ ?_ fun b' c' o hrow hor => ?_
    · show (m + 1) * 64 ≤ _; omega
    · exact Nat.le_trans (m := 100000000) (show m + 1 ≤ _ by omega) (by decide)
    refine num64 (by omega) (by omega) ⟨(i + 1, b', c', m + 1, _, μ1, _), ⟨by dsimp only; omega, by dsimp only; rw [List.length_append, hm]; rfl, hrow, hap1.set (apartB hb hap1 hor), hle.trans hle1, ?_⟩, by dsimp only; omega, ⟨⟨rfl, rfl, rfl, rfl, trivial⟩, trivial, rfl, rfl⟩⟩
    dsimp only
    rw [List.take_add_one, hx, Option.toList_some]
    simp only [List.map_append, List.map_cons, List.map_nil]
    exact hgr.snoc hle (Fresh.bd hR hle1) hle1 (Bd.d_n _)
  · obtain rfl : i = bs.length := by omega
    rw [List.take_length] at hgr
    refine ret_own _ Mem.nil (Parts.nil_right _) ?_
    obtain ⟨cs, hcell, hlen0, hcap, hone, hcs, htake⟩ := hb
    have hb2 : μ' b = none := by
      cases e : μ' b with
      | none => rfl
      | some o => have := hap b (by simp [e]); rw [hcell] at this; cases this
    have hrow : RowAt (μ'.join h) (some b) c 5 ys := ⟨hlen0, hone, _, _, by rw [Mem.join_get, hb2]; exact hcell, by simpa using hcs, by simpa using htake⟩
    subst hm
    exact hgr.fresh hle (Mem.le_join _ _) (fun r e => by cases e; exact hb2) hrow (Nat.le_trans (m := 100000000) (by omega) (by decide))
theorem Rows.elts : ∀ {L : List (List B)} {vs : List Value}, Rows μ 1 ((L.map dsOf).map Ds.d) vs → Elts μ (L.zip vs)
  | [], _, _ => fun p hp => by simp at hp
  | x :: L, _, .cons h _ r => fun p hp => by
    rcases List.mem_cons.1 hp with rfl | hp
    · exact h
    · exact Rows.elts r p hp
theorem Elts.perm {l m : List El} (h : Elts μ l) (p : m.Perm l) : Elts μ m := fun q hq => h q (p.mem_iff.1 hq)
theorem keep_perm {L S : List (List B)} (h : S.Perm L) (e : List B) : Keep S e ↔ Keep L e := ⟨fun k d hd => k d (h.mem_iff.2 hd), fun k d hd => k d (h.mem_iff.1 hd)⟩
/-- A new element stands behind those before it. -/
theorem sorted_new {S : List (List B)} (hS : ∀ (a b : Nat) x y, a < b → S[a]? = some x → S[b]? = some y → ¬ cmpB y x < 0) {i : Nat} {e y : List B} (hi : S[i + 1]? = some e) (hy : S[i]? = some y) (hne : cmpB y e ≠ 0) : ∀ x ∈ S.take (i + 1), cmpB x e < 0 := by
  have h1 : cmpB y e < 0 := cmpB_ord.ge_pos (hS i (i + 1) y e (by omega) hy hi) (cmpB_ord.ne_comm hne)
  intro x hx
  obtain ⟨t, ht⟩ := List.mem_iff_getElem?.1 hx
  rw [List.getElem?_take] at ht
  split at ht
  · rename_i hlt
    refine cmpB_ord.le_lt ?_ h1
    rcases Nat.lt_or_ge t i with k | k
    · exact hS t i x y k ht hy
    · obtain rfl : t = i := by omega
      rw [hy] at ht; cases ht
      exact cmpB_ord.irrefl _
  · cases ht
theorem nil_fresh {μ' : Mem} : Fresh μ μ' (.sl 1 (([] : List Ds).map Ds.d)) (.slice none 0 0) := ⟨Mem.nil, Own.nilSl 1, (fun _ _ h => nomatch h), fun _ h => absurd rfl h⟩
end
end Go.Vx

/- Contracts: the least disequalities, the program's side: all of it. -/
namespace Go.Vx
open Go.Proofs Classical
open Go.Sort
section
variable {μ : Mem}
set_option maxHeartbeats 8000000 in
theorem impl_MinimalDisequalities_spec {l : List Ds} {base : Option Addr} {cap : Nat} (hr : RepV μ (.sl 1 (l.map Ds.d)) (.slice base l.length cap)) (hn : l.length ≤ 10000000) :
    Spec Try.prog 18 [.slice base l.length cap] μ fun v μ' => Fresh μ μ' (.sl 1 ((minD l).map Ds.d)) v := by
  have hsl : Sl μ 1 base l.length (l.map Ds.d) := by
    obtain ⟨b', c', e1, hs⟩ := Rep.sl hr
    obtain ⟨rfl, _, _⟩ := Value.slice.inj e1
    simpa using hs
  refine Spec.mkO [5, 22] Try.func18 (by kernel_rfl) ?_
  refine loop_intro (fun i : Nat => i ≤ l.length ∧ ∀ (j : Nat) x, j < i → l[j]? = some x → substOk x.bs)
    (fun i => ⟨[(0, .val (.slice base l.length cap)), (12, .val (.slice base l.length cap)), (13, .val (.int .i64 l.length)), (14, .val (.int .i64 i))], [], 0, μ, Mem.nil⟩) (fun i => l.length - i)
    0 ⟨Nat.zero_le _, fun j x h => by omega⟩ (fun _ => ⟨rfl, rfl⟩) ⟨⟨rfl, rfl, rfl, rfl, trivial⟩, trivial, rfl, rfl⟩ ?_
  rintro i ⟨hi, hall⟩
  refine ifd (fun h => ?_) (fun h => ?_)
  · obtain ⟨x, hx⟩ := at_some (l := l) (i := i) (by omega)
    obtain ⟨ad, p, hel, hrx⟩ := Ds.elem hsl hx
    obtain ⟨p', e1, hs⟩ := Ds.inv hrx
    obtain ⟨e2, _, e3⟩ := Value.slice.inj e1
    rw [← e2] at hs
    refine elem_intro hel ?_
    refine call_gives (impl_SubstOk_spec hs) ?_
    refine ifnd (fun hb => ret_plain ?_) (fun hb => ?_)
    · rw [minD, if_neg fun k => hb (k x (mem_at hx))]
      exact nil_fresh
    · refine num64 (by omega) (by omega) ⟨i + 1, ⟨by omega, fun j y hj hy => ?_⟩, by omega, ⟨⟨rfl, rfl, rfl, rfl, trivial⟩, trivial, rfl, rfl⟩⟩
      rcases Nat.lt_or_ge j i with h6 | h6
      · exact hall j y h6 hy
      · obtain rfl : j = i := by omega
        rw [hx] at hy; cases hy; exact hb
  obtain rfl : i = l.length := by omega
  have hok : AllOk l := fun x hx => by
    obtain ⟨j, hj⟩ := List.mem_iff_getElem?.1 hx
    exact hall j x (List.getElem?_eq_some_iff.1 hj).1 hj
  obtain ⟨L, rfl, hL⟩ := hok.lift
  clear hall h hi hok
  rw [minD_map hL]
  rw [List.length_map] at hr hn hsl ⊢
  obtain ⟨vs, hrows, hvl, hsrc⟩ := Rep.srcAll hr
  intro r22 hm22 ho22
  refine src_intro _ hsrc ?_
  refine app_intro [] rfl ⟨[], Mem.set_at _ _ _, by simp, by simp, by simp, rfl, rfl⟩ ?_ ?_ fun b c o hrow hor => ?_
  · show (0 + _) * 24 ≤ _; simp; omega
  · exact Nat.le_trans (m := 2000000000) (by simp; omega) (by decide)
  generalize hH1 : Mem.set (Mem.set _ r22 _) b o = H1
  have hB1 : RowO H1 b c 43 1 vs := by rw [← hH1]; exact hrow
  have hap1 : Apart μ H1 := by
    rw [← hH1]
    refine ((apart_nil μ).set hm22).set ?_
    rcases hor with rfl | h
    · exact hm22
    · exact h.2
  clear hrow hor hH1 hm22 ho22
  have hN : 0 + vs.length = L.length := by omega
  rw [hN]
  intro r5 hm5 ho5
  refine sto_intro [.slice none 0 0] 35 (Mem.set_at _ _ _) rfl (Nat.le_refl _) ?_
  obtain ⟨cs, hcell, hlen0, hcap, hone, hcs, htake⟩ := hB1
  obtain ⟨rest, rfl⟩ : ∃ rest, cs = vs.flatMap vcells ++ rest := by
    refine ⟨cs.drop (vs.length * 1), ?_⟩
    conv => lhs; rw [← List.take_append_drop (vs.length * 1) cs, htake]
  have hne : r5 ≠ b := fun e => by
    have h5 : H1 r5 = none := ho5
    rw [e, hcell] at h5; cases h5
  obtain ⟨h0, hh0, hsplit⟩ : ∃ h0 : Mem, h0 r5 = some (.cells #[.slice (some ⟨b, 0, none⟩) L.length c] 35 (0, 0)) ∧ ((H1.set r5 (.cells #[.slice none 0 0] 35 (0, 0))).set r5 (.cells #[.slice (some ⟨b, 0, none⟩) L.length c] 35 (0, 0))) = RowV h0 b 43 rest vs.toArray := by
    refine ⟨fun k => if k = b then none else ((H1.set r5 (.cells #[.slice none 0 0] 35 (0, 0))).set r5 (.cells #[.slice (some ⟨b, 0, none⟩) L.length c] 35 (0, 0))) k, by simp only [if_neg hne]; exact Mem.set_at _ _ _, funext fun k => ?_⟩
    rw [RowV]
    by_cases e : k = b
    · subst e; rw [Mem.set_ne (Ne.symm hne), Mem.set_ne (Ne.symm hne), hcell, Mem.set_at]
    · conv => rhs; rw [Mem.set_ne e]
      rw [if_neg e]
  have hap2 : Apart μ (RowV h0 b 43 rest vs.toArray) := by
    rw [← hsplit]
    exact (hap1.set hm5).set hm5
  have hP0 : Elts μ (L.zip vs) := Rows.elts hrows
  have e2 : (L.zip vs).map Prod.snd = vs := List.map_snd_zip (by omega)
  have e1 : (L.zip vs).map Prod.fst = L := List.map_fst_zip (by omega)
  have ea : vs.toArray = (L.zip vs).toArray.map Prod.snd := by simp [e2]
  have hzn : (L.zip vs).toArray.size = L.length := by simp; omega
  have hspec := SortStable_spec (μ := μ) (h0 := h0) (r := b) (ty := 43) (rest := rest) (cap := c) (d0 := (L.zip vs).toArray) (lf := 63) (lb := [.pointer (some ⟨r5, 0, none⟩)]) (enc := Prod.snd) slDs (ttok.get rfl) (fun _ => rfl) (Elts.els (μ := μ) (by simpa using hP0)) hzn (by omega) swo_ltD
    fun {μ' d i j} hle' hV hi hj => minLess_spec hh0 hne (Elts.perm (Elts.mono (by simpa using hP0) hle') (permIn_list hzn hV)) (hV.1.trans hzn) hi hj
  rw [← ea, ← hsplit] at hspec
  refine own_intro [.slice (some ⟨b, 0, none⟩) L.length c] rfl (box_at (Mem.set_at _ _ _)) ?_
  refine call_own hspec fun v μ2 h2 hle2 hap3 hR => ?_
  obtain ⟨rfl, d', p1, p2, rfl⟩ := hR
  have hdn : d'.size = L.length := p1.1.trans hzn
  have hpd := permIn_list hzn p1
  have hP2 : Elts μ2 d'.toList := Elts.perm (Elts.mono (by simpa using hP0) hle2) hpd
  obtain ⟨S, hS⟩ : ∃ S, S = d'.toList.map Prod.fst := ⟨_, rfl⟩
  have hSp : S.Perm L := by
    rw [hS]
    conv => rhs; rw [← e1]
    simpa using hpd.map Prod.fst
  have hSl : S.length = L.length := hSp.length_eq
  have hSat : ∀ i, i < L.length → S[i]? = some d'[i]!.1 := fun i hi => by
    rw [hS, List.getElem?_map, getElem!_pos d' i (by omega), Array.getElem?_toList, Array.getElem?_eq_getElem (by omega)]
    rfl
  have hSS : ∀ (a b : Nat) x y, a < b → S[a]? = some x → S[b]? = some y → ¬ cmpB y x < 0 := fun a b' x y hab hx hy => by
    have hb' := (List.getElem?_eq_some_iff.1 hy).1
    have h3 := p2 a b' (Nat.zero_le _) hab (by omega)
    have h4 := hSat a (by omega)
    have h5 := hSat b' (by omega)
    rw [hx] at h4; rw [hy] at h5
    cases h4; cases h5
    simpa [ltD] using h3
  have hSok : ∀ x ∈ S, Subst x := fun x hx => hL x (hSp.mem_iff.1 hx)
  have hrs : RowV h0 b 43 rest (d'.map Prod.snd) r5 = some (.cells #[.slice (some ⟨b, 0, none⟩) L.length c] 35 (0, 0)) := (Mem.set_ne hne).trans hh0
  clear hspec hsplit hcell hap2 ho5 hm5 hap1 p1 hpd ea htake hcs hone hcap hlen0 hP0
  generalize hHH : RowV h0 b 43 rest (d'.map Prod.snd) = HH at *
  intro r29
  refine own_intro [.slice (some ⟨b, 0, none⟩) L.length c] rfl (box_at hrs) ?_
  refine loop_intro (fun p : Nat × List (List B) × Option Nat × Nat × List Value × Mem => p.1 ≤ L.length ∧ μ2.Le p.2.2.2.2.2 ∧ Apart p.2.2.2.2.2 HH ∧ Grown 1 μ p.2.2.2.2.2 ((p.2.1.map dsOf).map Ds.d) p.2.2.2.2.1 ∧ Asc3 cmpB p.2.1 ∧ p.2.1.length ≤ p.1 ∧ ∀ x, x ∈ p.2.1 ↔ x ∈ S.take p.1 ∧ Keep S x)
    (fun (i, acc, b', c', ys, μ') => ⟨[(5, .val (.pointer (some ⟨r5, 0, none⟩))), (6, .row 0 b' ys.length c'), (30, .val (.slice (some ⟨b, 0, none⟩) L.length c)), (31, .val (.int .i64 L.length)), (32, .val (.int .i64 i))], [(0, some (.row b' c' 43 1 ys))], 1, μ', HH⟩) (fun p => L.length - p.1)
    (0, [], some r29, 0, [], μ2) ⟨Nat.zero_le _, Mem.Le.refl _, hap3, Grown.nil _ _ _, List.Pairwise.nil, Nat.le_refl _, by simp⟩ (fun (_, _, _, _, _, _) => ⟨rfl, rfl⟩) ⟨⟨rfl, rfl, rfl, rfl, rfl, trivial⟩, ⟨rfl, trivial⟩, rfl, rfl⟩ ?_
  rintro ⟨i, acc, b', c', ys, μ'⟩ ⟨hi, hle, hap, hgr, hasc, hlen, hmem⟩
  dsimp only at hi hle hap hgr hasc hlen hmem
  have hyl := hgr.len
  simp only [List.length_map] at hyl
  have hP := hP2.mono hle
  refine ifd (fun hlt => ?_) (fun hlt => ?_)
  rotate_left
  · obtain rfl : i = L.length := by omega
    rw [← hSl, List.take_length] at hmem
    have e : acc = minL L := minL_eq hasc fun x => by rw [hmem, hSp.mem_iff, keep_perm hSp]
    refine ret_frz [0] fun μ3 hle3 hno3 hrow3 => .inl ?_
    rw [← e]
    exact hgr.fresh (hle2.trans hle) hle3 hno3 hrow3 (Nat.le_trans (m := 100000000) (by omega) (by decide))
  have hit : i < L.length := by omega
  obtain ⟨p, ee, hse⟩ := hP.at hdn hit
  have hei := hSat i hit
  generalize hE : d'[i]!.1 = e at *
  have hSe := hSok e (mem_at hei)
  have htk : ∀ x, x ∈ S.take (i + 1) ↔ x ∈ S.take i ∨ x = e := fun x => by
    rw [List.take_add_one, hei, Option.toList_some, List.mem_append, List.mem_singleton]
  have rdv : ∀ {j : Nat} {q : Ds.P} {K : List Value → Prop}, j < L.length → d'[j]!.2 = .slice q.1 d'[j]!.1.length q.2 → K [.slice q.1 d'[j]!.1.length q.2] → extVC μ' HH ⟨b, j * 1, none⟩ 1 K := fun hj e1 k => by
    rw [← hHH]; exact rdE hP hdn hj e1 k
  refine idxV i rfl hit ?_
  have hrdi : ∀ {K : List Value → Prop}, K [.slice p.1 e.length p.2] → extVC μ' HH ⟨b, i * 1, none⟩ 1 K := fun k => rdv hit (by rw [hE]; exact ee) (by rw [hE]; exact k)
  refine hrdi ?_
  have skip : e ∈ S.take i ∨ ¬ Keep S e → ∀ x, x ∈ acc ↔ x ∈ S.take (i + 1) ∧ Keep S x := fun h x => by
    rw [hmem, htk]
    constructor
    · exact fun k => ⟨.inl k.1, k.2⟩
    · rintro ⟨k1 | rfl, k2⟩
      · exact ⟨k1, k2⟩
      · exact h.elim (fun h => ⟨h, k2⟩) fun h => absurd k2 h
  refine ifd (fun h0 => ?_) (fun h0 => ?_)
  · obtain ⟨i, rfl⟩ : ∃ k, i = k + 1 := ⟨i - 1, by omega⟩
    have hit2 : i < L.length := by omega
    obtain ⟨q, eq, hsq⟩ := hP.at hdn hit2
    have hqi := hSat i hit2
    refine own_intro [.slice (some ⟨b, 0, none⟩) L.length c] rfl (box_at hrs) ?_
    refine num_eq (x := (i : Int)) (by rw [wrap64 (by omega) (by omega)]; omega) ?_
    refine idxV i rfl hit2 ?_
    refine rdv hit2 eq ?_
    refine call_gives (orderBindings_spec hsq hse) ?_
    refine ifd (fun hc => ?_) (fun hc => ?_)
    · refine num64 (by omega) (by omega) ⟨(i + 1 + 1, acc, b', c', ys, μ'), ⟨by dsimp only; omega, hle, hap, hgr, hasc, by dsimp only; omega, skip (.inl ?_)⟩, by dsimp only; omega, ⟨⟨rfl, rfl, rfl, rfl, rfl, trivial⟩, ⟨rfl, trivial⟩, rfl, rfl⟩⟩
      rw [← (cmpB_ord.zero _ _).1 hc, List.take_add_one, hqi]
      simp
    · have hnew : ∀ x ∈ S.take (i + 1), cmpB x e < 0 := sorted_new hSS hei hqi hc
      generalize i + 1 = i at *
      refine own_intro [.slice (some ⟨b, 0, none⟩) L.length c] rfl (box_at hrs) ?_
      refine loop_intro (fun q : Nat × Bool => q.1 ≤ L.length ∧ (q.2 = true ↔ ∀ (t : Nat) d, t < q.1 → S[t]? = some d → cmpB d e = 0 ∨ ¬ mgen d e))
        (fun (j, kb) => ⟨[(5, .val (.pointer (some ⟨r5, 0, none⟩))), (6, .row 0 b' ys.length c'), (8, .val (.slice p.1 e.length p.2)), (9, .val (.bool kb)), (30, .val (.slice (some ⟨b, 0, none⟩) L.length c)), (31, .val (.int .i64 L.length)), (32, .val (.int .i64 i)), (49, .val (.slice (some ⟨b, 0, none⟩) L.length c)), (50, .val (.int .i64 L.length)), (51, .val (.int .i64 j))], [(0, some (.row b' c' 43 1 ys))], 1, μ', HH⟩) (fun q => L.length - q.1)
        (0, true) ⟨Nat.zero_le _, by simp⟩ (fun (_, _) => ⟨rfl, rfl⟩) ⟨⟨rfl, rfl, rfl, rfl, rfl, rfl, rfl, rfl, rfl, rfl, trivial⟩, ⟨rfl, trivial⟩, rfl, rfl⟩ ?_
      rintro ⟨j, kb⟩ ⟨hj, hkb⟩
      dsimp only at hj hkb
      refine ifd (fun hlt2 => ?_) (fun hlt2 => ?_)
      · have hjt : j < L.length := by omega
        obtain ⟨q, eq, hsq⟩ := hP.at hdn hjt
        have hqj := hSat j hjt
        have step : (∀ (t : Nat) d, t < j + 1 → S[t]? = some d → cmpB d e = 0 ∨ ¬ mgen d e) ↔ (∀ (t : Nat) d, t < j → S[t]? = some d → cmpB d e = 0 ∨ ¬ mgen d e) ∧ (cmpB d'[j]!.1 e = 0 ∨ ¬ mgen d'[j]!.1 e) := by
          constructor
          · exact fun h => ⟨fun t d ht => h t d (by omega), h j _ (by omega) hqj⟩
          · rintro ⟨h1, h2⟩ t d ht hd
            rcases Nat.lt_or_ge t j with h6 | h6
            · exact h1 t d h6 hd
            · obtain rfl : t = j := by omega
              rw [hqj] at hd; cases hd; exact h2
        refine idxV j rfl hjt ?_
        refine rdv hjt eq ?_
        refine call_gives (orderBindings_spec hsq hse) ?_
        refine ifnd (fun hc => ?_) (fun hc => ?_)
        · refine call_gives (moreGeneral_spec hsq hse (Nat.le_trans (hSok _ (mem_at hqj)).vals.len (by decide)) hSe.vals) ?_
          refine ifd (fun hg => ?_) (fun hg => ?_)
          · exact num64 (by omega) (by omega) ⟨(j + 1, false), ⟨by dsimp only; omega, by dsimp only; rw [step]; exact ⟨(fun h => nomatch h), fun h => absurd hg (h.2.resolve_left hc)⟩⟩, by dsimp only; omega, ⟨⟨rfl, rfl, rfl, rfl, rfl, rfl, rfl, rfl, rfl, rfl, trivial⟩, ⟨rfl, trivial⟩, rfl, rfl⟩⟩
          · exact num64 (by omega) (by omega) ⟨(j + 1, kb), ⟨by dsimp only; omega, by dsimp only; rw [step, hkb]; exact ⟨fun h => ⟨h, .inr hg⟩, fun h => h.1⟩⟩, by dsimp only; omega, ⟨⟨rfl, rfl, rfl, rfl, rfl, rfl, rfl, rfl, rfl, rfl, trivial⟩, ⟨rfl, trivial⟩, rfl, rfl⟩⟩
        · exact num64 (by omega) (by omega) ⟨(j + 1, kb), ⟨by dsimp only; omega, by dsimp only; rw [step, hkb]; exact ⟨fun h => ⟨h, .inl hc⟩, fun h => h.1⟩⟩, by dsimp only; omega, ⟨⟨rfl, rfl, rfl, rfl, rfl, rfl, rfl, rfl, rfl, rfl, trivial⟩, ⟨rfl, trivial⟩, rfl, rfl⟩⟩
      obtain rfl : j = L.length := by omega
      have hkeep : kb = true ↔ Keep S e := by
        rw [hkb]
        constructor
        · intro h d hd
          obtain ⟨t, ht⟩ := List.mem_iff_getElem?.1 hd
          exact h t d (by have := (List.getElem?_eq_some_iff.1 ht).1; omega) ht
        · exact fun h t d _ hd => h d (mem_at hd)
      clear hkb hlt2 hj
      refine if_intro (fun hkt => ?_) (fun hkf => ?_)
      · refine call_data hap (copyBindings_spec hse (Nat.le_trans hSe.vals.len (by decide))) fun v1 μ1 hle1 hapn hF => ?_
        have hF' : Fresh μ' μ1 (dsOf e).d v1 := hF
        obtain ⟨pv, rfl, _⟩ := dsOf_inv (RepV.mono (Mem.Le.refl _) hF'.rep)
        intro r69
        refine grow_intro ?_ ?_ fun b9 c9 _ => ?_
        · show (ys.length + 1) * 24 ≤ _; omega
        · exact Nat.le_trans (m := 100000000) (show ys.length + 1 ≤ _ by omega) (by decide)
        refine num64 (by omega) (by omega) ⟨(i + 1, acc ++ [e], b9, c9, _, μ1), ⟨by dsimp only; omega, hle.trans hle1, hapn, ?_, ?_, by dsimp only; rw [List.length_append]; simp; omega, fun x => ?_⟩, by dsimp only; omega, ⟨⟨rfl, rfl, rfl, rfl, rfl, trivial⟩, ⟨rfl, trivial⟩, rfl, rfl⟩⟩
        · dsimp only
          rw [List.map_append, List.map_append]
          exact hgr.snoc (hle2.trans hle) hF' hle1 (Ds.d_n _)
        · dsimp only
          rw [Asc3, List.pairwise_append]
          exact ⟨hasc, List.pairwise_singleton _ _, fun x hx y hy => by rw [List.mem_singleton.1 hy]; exact hnew x ((hmem x).1 hx).1⟩
        · dsimp only
          rw [List.mem_append, List.mem_singleton, hmem, htk]
          constructor
          · rintro (k | rfl)
            · exact ⟨.inl k.1, k.2⟩
            · exact ⟨.inr rfl, hkeep.1 hkt⟩
          · rintro ⟨k1 | rfl, k2⟩
            · exact .inl ⟨k1, k2⟩
            · exact .inr rfl
      · exact num64 (by omega) (by omega) ⟨(i + 1, acc, b', c', ys, μ'), ⟨by dsimp only; omega, hle, hap, hgr, hasc, by dsimp only; omega, skip (.inr fun h => by rw [← hkeep, hkf] at h; cases h)⟩, by dsimp only; omega, ⟨⟨rfl, rfl, rfl, rfl, rfl, trivial⟩, ⟨rfl, trivial⟩, rfl, rfl⟩⟩
  · have hi0 : i = 0 := by omega
    have hnew : ∀ x ∈ S.take i, cmpB x e < 0 := by rw [hi0]; simp
    refine own_intro [.slice (some ⟨b, 0, none⟩) L.length c] rfl (box_at hrs) ?_
    refine loop_intro (fun q : Nat × Bool => q.1 ≤ L.length ∧ (q.2 = true ↔ ∀ (t : Nat) d, t < q.1 → S[t]? = some d → cmpB d e = 0 ∨ ¬ mgen d e))
      (fun (j, kb) => ⟨[(5, .val (.pointer (some ⟨r5, 0, none⟩))), (6, .row 0 b' ys.length c'), (8, .val (.slice p.1 e.length p.2)), (9, .val (.bool kb)), (30, .val (.slice (some ⟨b, 0, none⟩) L.length c)), (31, .val (.int .i64 L.length)), (32, .val (.int .i64 i)), (49, .val (.slice (some ⟨b, 0, none⟩) L.length c)), (50, .val (.int .i64 L.length)), (51, .val (.int .i64 j))], [(0, some (.row b' c' 43 1 ys))], 1, μ', HH⟩) (fun q => L.length - q.1)
      (0, true) ⟨Nat.zero_le _, by simp⟩ (fun (_, _) => ⟨rfl, rfl⟩) ⟨⟨rfl, rfl, rfl, rfl, rfl, rfl, rfl, rfl, rfl, rfl, trivial⟩, ⟨rfl, trivial⟩, rfl, rfl⟩ ?_
    rintro ⟨j, kb⟩ ⟨hj, hkb⟩
    dsimp only at hj hkb
    refine ifd (fun hlt2 => ?_) (fun hlt2 => ?_)
    · have hjt : j < L.length := by omega
      obtain ⟨q, eq, hsq⟩ := hP.at hdn hjt
      have hqj := hSat j hjt
      have step : (∀ (t : Nat) d, t < j + 1 → S[t]? = some d → cmpB d e = 0 ∨ ¬ mgen d e) ↔ (∀ (t : Nat) d, t < j → S[t]? = some d → cmpB d e = 0 ∨ ¬ mgen d e) ∧ (cmpB d'[j]!.1 e = 0 ∨ ¬ mgen d'[j]!.1 e) := by
        constructor
        · exact fun h => ⟨fun t d ht => h t d (by omega), h j _ (by omega) hqj⟩
        · rintro ⟨h1, h2⟩ t d ht hd
          rcases Nat.lt_or_ge t j with h6 | h6
          · exact h1 t d h6 hd
          · obtain rfl : t = j := by omega
            rw [hqj] at hd; cases hd; exact h2
      refine idxV j rfl hjt ?_
      refine rdv hjt eq ?_
      refine call_gives (orderBindings_spec hsq hse) ?_
      refine ifnd (fun hc => ?_) (fun hc => ?_)
      · refine call_gives (moreGeneral_spec hsq hse (Nat.le_trans (hSok _ (mem_at hqj)).vals.len (by decide)) hSe.vals) ?_
        refine ifd (fun hg => ?_) (fun hg => ?_)
        · exact num64 (by omega) (by omega) ⟨(j + 1, false), ⟨by dsimp only; omega, by dsimp only; rw [step]; exact ⟨(fun h => nomatch h), fun h => absurd hg (h.2.resolve_left hc)⟩⟩, by dsimp only; omega, ⟨⟨rfl, rfl, rfl, rfl, rfl, rfl, rfl, rfl, rfl, rfl, trivial⟩, ⟨rfl, trivial⟩, rfl, rfl⟩⟩
        · exact num64 (by omega) (by omega) ⟨(j + 1, kb), ⟨by dsimp only; omega, by dsimp only; rw [step, hkb]; exact ⟨fun h => ⟨h, .inr hg⟩, fun h => h.1⟩⟩, by dsimp only; omega, ⟨⟨rfl, rfl, rfl, rfl, rfl, rfl, rfl, rfl, rfl, rfl, trivial⟩, ⟨rfl, trivial⟩, rfl, rfl⟩⟩
      · exact num64 (by omega) (by omega) ⟨(j + 1, kb), ⟨by dsimp only; omega, by dsimp only; rw [step, hkb]; exact ⟨fun h => ⟨h, .inl hc⟩, fun h => h.1⟩⟩, by dsimp only; omega, ⟨⟨rfl, rfl, rfl, rfl, rfl, rfl, rfl, rfl, rfl, rfl, trivial⟩, ⟨rfl, trivial⟩, rfl, rfl⟩⟩
    obtain rfl : j = L.length := by omega
    have hkeep : kb = true ↔ Keep S e := by
      rw [hkb]
      constructor
      · intro h d hd
        obtain ⟨t, ht⟩ := List.mem_iff_getElem?.1 hd
        exact h t d (by have := (List.getElem?_eq_some_iff.1 ht).1; omega) ht
      · exact fun h t d _ hd => h d (mem_at hd)
    clear hkb hlt2 hj
    refine if_intro (fun hkt => ?_) (fun hkf => ?_)
    · refine call_data hap (copyBindings_spec hse (Nat.le_trans hSe.vals.len (by decide))) fun v1 μ1 hle1 hapn hF => ?_
      have hF' : Fresh μ' μ1 (dsOf e).d v1 := hF
      obtain ⟨pv, rfl, _⟩ := dsOf_inv (RepV.mono (Mem.Le.refl _) hF'.rep)
      intro r69
      refine grow_intro ?_ ?_ fun b9 c9 _ => ?_
      · show (ys.length + 1) * 24 ≤ _; omega
      · exact Nat.le_trans (m := 100000000) (show ys.length + 1 ≤ _ by omega) (by decide)
      refine num64 (by omega) (by omega) ⟨(i + 1, acc ++ [e], b9, c9, _, μ1), ⟨by dsimp only; omega, hle.trans hle1, hapn, ?_, ?_, by dsimp only; rw [List.length_append]; simp; omega, fun x => ?_⟩, by dsimp only; omega, ⟨⟨rfl, rfl, rfl, rfl, rfl, trivial⟩, ⟨rfl, trivial⟩, rfl, rfl⟩⟩
      · dsimp only
        rw [List.map_append, List.map_append]
        exact hgr.snoc (hle2.trans hle) hF' hle1 (Ds.d_n _)
      · dsimp only
        rw [Asc3, List.pairwise_append]
        exact ⟨hasc, List.pairwise_singleton _ _, fun x hx y hy => by rw [List.mem_singleton.1 hy]; exact hnew x ((hmem x).1 hx).1⟩
      · dsimp only
        rw [List.mem_append, List.mem_singleton, hmem, htk]
        constructor
        · rintro (k | rfl)
          · exact ⟨.inl k.1, k.2⟩
          · exact ⟨.inr rfl, hkeep.1 hkt⟩
        · rintro ⟨k1 | rfl, k2⟩
          · exact .inl ⟨k1, k2⟩
          · exact .inr rfl
    · exact num64 (by omega) (by omega) ⟨(i + 1, acc, b', c', ys, μ'), ⟨by dsimp only; omega, hle, hap, hgr, hasc, by dsimp only; omega, skip (.inr fun h => by rw [← hkeep, hkf] at h; cases h)⟩, by dsimp only; omega, ⟨⟨rfl, rfl, rfl, rfl, rfl, trivial⟩, ⟨rfl, trivial⟩, rfl, rfl⟩⟩
end
end Go.Vx

/- The law on the least disequalities. -/
namespace Go.Vx
open Go.Proofs Classical
section
variable {μ : Mem}
theorem dss_cnt : ∀ l : List Ds, D.cnts (l.map Ds.d) ≤ 7 * D.szs (l.map Ds.d)
  | [] => by simp [D.cnts]
  | x :: l => by
    have h1 := bds_cnt x.bs
    have h2 := dss_cnt l
    simp only [List.map_cons, D.cnts, D.szs]
    rw [Ds.cnt_eq, Ds.d_eq, D.sz, List.length_map]
    omega
theorem bds_cnt3 : ∀ l : List B, (∀ b ∈ l, b.to.size ≤ 5000) → D.cnts ((l.map B.bd).map Bd.d) ≤ 15001 * l.length
  | [], _ => by simp [D.cnts]
  | b :: l, h => by
    have ih := bds_cnt3 l fun x hx => h x (by simp [hx])
    have h1 := h b (by simp)
    have h2 := tm_cnt b.bd.to
    have h3 : b.bd.to.cnt = b.to.size := T.cnt_tm b.to
    rw [Tm.cnt_eq] at h2
    simp only [List.map_cons, D.cnts, List.length_cons]
    rw [Bd.cnt_eq]
    omega
theorem dss_cnt2 : ∀ L : List (List B), (∀ x ∈ L, Subst x) → D.cnts ((L.map dsOf).map Ds.d) ≤ 6000400 * L.length
  | [], _ => by simp [D.cnts]
  | x :: L, h => by
    have ih := dss_cnt2 L fun y hy => h y (by simp [hy])
    have k := h x (by simp)
    have h1 := bds_cnt3 x fun b hb => (k.vals.tok b hb).2
    have h2 := k.vals.len
    simp only [List.map_cons, D.cnts, List.length_cons]
    have e : (dsOf x).d.cnt = D.cnts ((x.map B.bd).map Bd.d) := Ds.cnt_eq _
    rw [e]
    have := Nat.mul_le_mul_left 15001 h2
    omega
theorem minD_cnt (l : List Ds) : D.cnts ((minD l).map Ds.d) ≤ 6000400 * l.length := by
  unfold minD
  split
  · rename_i h
    obtain ⟨L, rfl, hL⟩ := AllOk.lift h
    rw [map_b_bd, List.length_map]
    have h1 := dss_cnt2 (minL L) fun x hx => hL x (minL_mem.1 hx).1
    have h2 := Nat.mul_le_mul_left 6000400 (minL_len L)
    omega
  · simp [D.cnts]
theorem minD_rep {μ : Mem} {l : List Ds} {v : Value} (h : RepV μ (.sl 1 ((minD l).map Ds.d)) v) : ∃ tv, v = tv ∧ RepV μ (.sl 1 ((minD l).map Ds.d)) tv := ⟨v, rfl, h⟩
theorem minD_fresh {μ μ' : Mem} {l : List Ds} {v : Value} (h : Fresh μ μ' (.sl 1 ((minD l).map Ds.d)) v) : ∃ tv, v = id tv ∧ Fresh μ μ' (.sl 1 ((minD l).map Ds.d)) tv := ⟨v, rfl, h⟩
theorem specMinD {l : List Ds} {base : Option Addr} {cap : Nat} (hr : RepV μ (.sl 1 (l.map Ds.d)) (.slice base l.length cap)) (hw : D.wds (l.map Ds.d)) (hn : l.length ≤ 10000000) :
    Spec Try.prog 16 [.slice base l.length cap] μ fun v μ' => RepV μ' (.sl 1 ((minD l).map Ds.d)) v := by
  obtain ⟨b', c', e1, hs⟩ := Rep.sl hr
  obtain ⟨rfl, _, _⟩ := Value.slice.inj e1
  rw [List.length_map] at hs
  exact spec_MinimalDisequalities_spec hs hw hn
set_option maxHeartbeats 4000000 in
theorem FnExactMinimalDisequalities_spec {t0 : List Ds} {v0 : Value} (h0 : RepV μ (.sl 1 (t0.map Ds.d)) v0) (w0 : D.wds (t0.map Ds.d)) :
    Spec Try.prog 4 [v0] μ fun r _ => r = .bool true := by
  obtain ⟨b0, c0, rfl, s0⟩ := Rep.sl h0
  rw [List.length_map] at s0 ⊢
  refine Spec.mk Try.func4 (by kernel_rfl) ?_
  refine call_gives (szBindingSS_spec s0 (by omega) (by omega) w0) ?_
  refine ifd (fun h => ret_plain rfl) (fun h => ?_)
  have q0 := szR_ge h
  rw [szR_pos q0] at h
  have hb0 : t0.length + D.szs (t0.map Ds.d) ≤ 1048576 := by omega
  refine call_plain (toBindingSS_spec s0 hb0) fun u1 μ1 hle1 hf1 => ?_
  replace s0 := s0.mono hle1
  obtain ⟨bb2, cc2, rfl, a0⟩ := Rep.sl hf1.rep
  rw [List.length_map] at a0 ⊢
  have a0r := hf1.rep
  rw [List.length_map] at a0r
  refine call_plain (specMinD a0r w0 (by omega)) fun u3 μ3 hle3 hR => ?_
  replace s0 := s0.mono hle3
  replace a0 := a0.mono hle3
  replace a0r := a0r.mono hle3
  obtain ⟨w0, rfl, hw0⟩ := minD_rep hR
  obtain ⟨bb4, cc4, rfl, hw⟩ := Rep.sl hw0
  rw [List.length_map] at hw ⊢
  refine call_new id (apart_nil _) Owns.none ((toBindingSS_spec (s0.mono (Mem.le_join _ _)) hb0).weaken fun v μ' _ h => ⟨v, rfl, h⟩) fun x0 μ5 H5 hle5 hap5 ho5 => ?_
  replace s0 := s0.mono hle5
  replace hw := hw.mono hle5
  obtain ⟨bb6, cc6, rfl, xx0⟩ := Rep.sl (Owns.rep (l1 := []) hap5 ho5)
  rw [List.length_map] at xx0 ho5 ⊢
  have yr8 := Owns.rep (l1 := []) hap5 ho5
  refine call_new (id) hap5 ho5 ((impl_MinimalDisequalities_spec yr8 (by omega)).weaken fun v μ' _ h => minD_fresh h) fun g0 μ7 H7 hle7 hap7 ho7 => ?_
  replace s0 := s0.mono hle7
  replace hw := hw.mono hle7
  obtain ⟨bb9, cc9, rfl, gg⟩ := Rep.sl (Owns.rep (l1 := [_]) hap7 ho7)
  rw [List.length_map] at gg ho7 ⊢
  obtain ⟨bn11, cn11, en11, yg10⟩ := Rep.sl (Owns.rep (l1 := [_]) hap7 ho7)
  rw [List.length_map] at yg10 en11
  obtain ⟨rfl, _, rfl⟩ := Value.slice.inj en11
  refine call_read hap7 (eqBindingSS_spec yg10 (hw.mono (Mem.le_join _ _))) ?_
  refine if_intro (fun h => nomatch h) (fun _ => ?_)
  refine call_data hap7 (toBindingSS_spec s0 hb0) fun u12 μ12 hle12 hap12 hf12 => ?_
  replace s0 := s0.mono hle12
  replace hw := hw.mono hle12
  obtain ⟨bb13, cc13, rfl, z0⟩ := Rep.sl hf12.rep
  rw [List.length_map] at z0 ⊢
  obtain ⟨bn15, cn15, en15, yb14⟩ := Rep.sl (Owns.rep (l1 := []) hap12 ho7)
  rw [List.length_map] at yb14 en15
  obtain ⟨rfl, _, rfl⟩ := Value.slice.inj en15
  refine call_read hap12 (eqBindingSS_spec yb14 (z0.mono (Mem.le_join _ _))) ?_
  refine if_intro (fun h => nomatch h) (fun _ => ?_)
  have ca0 := dss_cnt t0
  have ma0 := D.mks_cnt (t0.map Ds.d) (1)
  have rz := minD_cnt t0
  have mg := D.mks_cnt ((minD t0).map Ds.d) 1
  refine call_mark (l1 := []) hap12 ho7 (fun hx o => markBindingSS_spec o (by omega) (by omega)) fun H16 hap16 ho16 => ?_
  refine ifd (fun h => by omega) (fun _ => ?_)
  obtain ⟨bn18, cn18, en18, yg17⟩ := Rep.sl (Owns.rep (l1 := [_]) hap16 ho16)
  rw [List.length_map] at yg17 en18
  obtain ⟨rfl, _, rfl⟩ := Value.slice.inj en18
  refine call_read hap16 (eqBindingSS_spec yg17 (hw.mono (Mem.le_join _ _))) ?_
  refine if_intro (fun h => nomatch h) (fun _ => ?_)
  refine call_mark (l1 := [_]) hap16 ho16 (fun hx o => markBindingSS_spec o (by omega) (by omega)) fun H19 hap19 ho19 => ?_
  refine call_read hap19 (heldBindingSS_spec (Owns.rep (l1 := [_]) hap19 ho19) (by omega) (by omega)) ?_
  refine ifd (fun h => by omega) (fun _ => ?_)
  refine ifnd (fun h => absurd rfl h) (fun _ => ?_)
  refine call_data hap19 (toBindingSS_spec s0 hb0) fun u20 μ20 hle20 hap20 hf20 => ?_
  replace s0 := s0.mono hle20
  replace hw := hw.mono hle20
  obtain ⟨bb21, cc21, rfl, o0⟩ := Rep.sl hf20.rep
  rw [List.length_map] at o0 ⊢
  have o0r := hf20.rep
  rw [List.length_map] at o0r
  refine call_data hap20 ((impl_MinimalDisequalities_spec o0r (by omega)).weaken fun v μ' _ h => minD_fresh h) fun u22 μ22 hle22 hap22 hR => ?_
  replace s0 := s0.mono hle22
  replace hw := hw.mono hle22
  replace o0 := o0.mono hle22
  replace o0r := o0r.mono hle22
  obtain ⟨h0, rfl, hh0⟩ := hR
  obtain ⟨bb23, cc23, rfl, hh⟩ := Rep.sl hh0.rep
  rw [List.length_map] at hh ⊢
  refine call_read hap22 (eqBindingSS_spec (hh.mono (Mem.le_join _ _)) (hw.mono (Mem.le_join _ _))) ?_
  refine if_intro (fun h => nomatch h) (fun _ => ?_)
  refine call_read hap22 (heldBindingSS_spec (Owns.rep (l1 := [_]) hap22 ho19) (by omega) (by omega)) ?_
  refine ifd (fun h => by omega) (fun _ => ?_)
  refine ifnd (fun h => absurd rfl h) (fun _ => ?_)
  exact ret_plain rfl
end
end Go.Vx
