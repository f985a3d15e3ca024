/- Texts of the proof, part 4. -/
import Derived.Orders
import Derived.Below
import Derived.WalkKit
import Derived.MapKept
import Derived.WideKeyMaps
import Derived.Maps.RangeRun
import Derived.Laws.Cover3
import Derived.Laws.IdiomStrings
import Derived.Laws.BytesString
import Derived.Deep.RegionHeld3
import Derived.Carry
import Derived.ChangeArms
import Derived.RowKit3
import Derived.Test.YtcpooehlndhcbaaGreatChecked
import Derived.KernelRfl
import Derived.ProofKit
import Derived.OpenShut
import Derived.ChangeOld
import Derived.Handed
import Derived.JoinedOf
import Derived.Sort.AssemblyPlain
import Derived.Lib.ReflectliteSwap
import Derived.DeepKeys3
import Derived.Test.YtcpooehlndhcbaaGreatM3
/- Contracts: the laws' own functions on values of the type Goal: sizes, copies, equality, marks; what an argument reads. (By gen_types.py.) -/
namespace Go.Vx
open Go.Proofs Classical
inductive Gl where
  | mk (kind : Int) (name : ByteArray) (terms : List Tm) (goals : List Gl)
def Gl.kind : Gl → Int | .mk a _ _ _ => a
def Gl.name : Gl → ByteArray | .mk _ a _ _ => a
def Gl.terms : Gl → List Tm | .mk _ _ a _ => a
def Gl.goals : Gl → List Gl | .mk _ _ _ a => a
theorem Gl.ind {q : Gl → Prop} (h : ∀ x : Gl, (∀ y ∈ x.goals, q y) → q x) : ∀ x, q x
  | .mk a0 a1 a2 a3 => h _ fun y hy => Gl.ind h y
termination_by x => x
decreasing_by all_goals (first | exact Nat.lt_of_lt_of_le (List.sizeOf_lt_of_mem hy) (by simp only [Gl.goals, Gl.mk.sizeOf_spec]; omega) | decreasing_tactic)
mutual
def Gl.d : Gl → D
  | .mk a0 a1 a2 a3 => .st [.i a0, .s a1, .sl 4 (a2.map Tm.d), .sl 4 (Gl.ds a3)]
def Gl.ds : List Gl → List D
  | [] => []
  | t :: r => t.d :: Gl.ds r
end
theorem Gl.ds_map : ∀ l : List Gl, Gl.ds l = l.map Gl.d
  | [] => rfl
  | t :: r => by simp [Gl.ds, Gl.ds_map r]
theorem Gl.d_eq (x : Gl) : x.d = .st [.i x.kind, .s x.name, .sl 4 (x.terms.map Tm.d), .sl 4 (x.goals.map Gl.d)] := by
  cases x
  rw [Gl.d, Gl.ds_map]
  rfl
theorem Gl.d_n (x : Gl) : x.d.n = 4 := by
  rw [Gl.d_eq]
  simp only [D.n, D.ns]
abbrev Gl.P := (Option Addr × Nat) × (Option Addr × Nat)
/-- The cells of a value. -/
def Gl.cs (x : Gl) (p : Gl.P) : List Value := [.int .i64 x.kind, .string x.name, .slice p.1.1 x.terms.length p.1.2, .slice p.2.1 x.goals.length p.2.2]
section
variable {μ : Mem}
def Gl.At (μ : Mem) (x : Gl) (p : Gl.P) : Prop := Sl μ 4 p.1.1 x.terms.length (x.terms.map Tm.d) ∧ Sl μ 4 p.2.1 x.goals.length (x.goals.map Gl.d)
theorem Gl.invA {x : Gl} {cs : List Value} (h : Rep μ x.d cs) : ∃ p : Gl.P, cs = x.cs p ∧ Gl.At μ x p := by
  rw [Gl.d_eq] at h
  obtain ⟨a0, t0, rfl, h0, h⟩ := h
  have h0 : a0 = [.int .i64 x.kind] := h0
  subst h0
  obtain ⟨a1, t1, rfl, h1, h⟩ := h
  have h1 : a1 = [.string x.name] := h1
  subst h1
  obtain ⟨a2, t2, rfl, h2, h⟩ := h
  have hv_ := one_of (Rep.len _ _ h2)
  obtain ⟨v2, rfl⟩ := hv_
  have hv_ := Rep.sl h2
  obtain ⟨b2, c2, rfl, s2⟩ := hv_
  rw [List.length_map] at s2
  obtain ⟨a3, t3, rfl, h3, h⟩ := h
  have hv_ := one_of (Rep.len _ _ h3)
  obtain ⟨v3, rfl⟩ := hv_
  have hv_ := Rep.sl h3
  obtain ⟨b3, c3, rfl, s3⟩ := hv_
  rw [List.length_map] at s3
  obtain rfl : t3 = [] := h
  exact ⟨((b2, c2), (b3, c3)), by simp [Gl.cs], ⟨s2, s3⟩⟩
theorem Gl.rep {x : Gl} {cs : List Value} (h : Rep μ x.d cs) : RepV μ x.d (.agg cs.toArray) := by
  rw [Gl.d_eq] at h ⊢; exact ⟨cs, rfl, h⟩
theorem Gl.invR {x : Gl} {cs : List Value} (h : Rep μ x.d cs) : ∃ p : Gl.P, cs = x.cs p ∧ RepV μ x.d (.agg (x.cs p).toArray) := by
  have hv_ := Gl.invA h
  obtain ⟨p, e, _⟩ := hv_
  subst e
  exact ⟨p, rfl, Gl.rep h⟩
theorem Gl.inv {x : Gl} {v : Value} (h : RepV μ x.d v) : ∃ p : Gl.P, v = .agg #[.int .i64 x.kind, .string x.name, .slice p.1.1 x.terms.length p.1.2, .slice p.2.1 x.goals.length p.2.2] ∧ Gl.At μ x p := by
  have h2 : ∃ cs, v = .agg (List.toArray cs) ∧ Rep μ x.d cs := by rw [Gl.d_eq] at h ⊢; exact h
  obtain ⟨cs, rfl, h3⟩ := h2
  have hv_ := Gl.invA h3
  obtain ⟨p, rfl, hA⟩ := hv_
  exact ⟨p, rfl, hA⟩
theorem Gl.invV {x : Gl} {v : Value} (h : RepV μ x.d v) : ∃ p : Gl.P, v = .agg #[.int .i64 x.kind, .string x.name, .slice p.1.1 x.terms.length p.1.2, .slice p.2.1 x.goals.length p.2.2] := by
  have hv_ := Gl.inv h
  obtain ⟨p, h, _⟩ := hv_
  exact ⟨p, h⟩
theorem Gl.elemA {l : List Gl} {base : Option Addr} {n : Nat} (h : Sl μ 4 base n (l.map Gl.d)) {i : Nat} {x : Gl} (hx : l[i]? = some x) : ∃ ad, ∃ p : Gl.P, ElemAt μ base n 4 i ad (x.cs p) ∧ RepV μ x.d (.agg (x.cs p).toArray) ∧ Gl.At μ x p := by
  have hv_ := h.get i x.d (by simp [hx])
  obtain ⟨ad, cs, h1, h2⟩ := hv_
  have hv_ := Gl.invA h2
  obtain ⟨p, rfl, hA⟩ := hv_
  exact ⟨ad, p, h1, Gl.rep h2, hA⟩
theorem Gl.elem {l : List Gl} {base : Option Addr} {n : Nat} (h : Sl μ 4 base n (l.map Gl.d)) {i : Nat} {x : Gl} (hx : l[i]? = some x) : ∃ ad, ∃ p : Gl.P, ElemAt μ base n 4 i ad (x.cs p) ∧ RepV μ x.d (.agg (x.cs p).toArray) := by
  have hv_ := Gl.elemA h hx
  obtain ⟨ad, p, h1, h2, _⟩ := hv_
  exact ⟨ad, p, h1, h2⟩
theorem Gl.sz_eq (x : Gl) : x.d.sz = x.name.size + (x.terms.length + D.szs (x.terms.map Tm.d)) + (x.goals.length + D.szs (x.goals.map Gl.d)) := by
  rw [Gl.d_eq]
  simp [D.sz, D.szs]
  omega
theorem szGoalS_of {l : List Gl} (he : ∀ t ∈ l, ∀ {v : Value} {left : Int}, RepV μ t.d v → 0 ≤ left → left ≤ 1048576 → t.d.wd → Gives Tryz.prog 31 [v, .int .i64 left] μ (.int .i64 (szR left t.d.sz)))
    {base : Option Addr} {cap : Nat} {left : Int} (hsl : Sl μ 4 base l.length (l.map Gl.d)) (hl : 0 ≤ left) (hl2 : left ≤ 1048576) (hw : D.wds (l.map Gl.d)) :
    Gives Tryz.prog 98 [.slice base l.length cap, .int .i64 left] μ (.int .i64 (szR left (l.length + D.szs (l.map Gl.d)))) := by
  have hn := maxLen_le hsl.max
  refine Spec.mk Tryz.func98 (by kernel_rfl) ?_
  refine num64 (by omega) (by omega) (ifd (fun h => ret_gives ?_ rfl) (fun h => ?_))
  · rw [szR_neg (by omega)]
  refine loop_intro (fun i : Nat => i ≤ l.length ∧ (D.szs ((l.map Gl.d).take i) : Int) ≤ left - l.length) (fun i => ⟨[(0, .val (.slice base l.length cap)), (1, .val (.int .i64 (left - l.length - D.szs ((l.map Gl.d).take i)))), (5, .val (.int .i64 i))], [], 0, μ, Mem.nil⟩) (fun i => l.length - i)
    0 ⟨by omega, by simp [D.szs]; omega⟩ (fun i => ⟨rfl, rfl⟩) ⟨⟨rfl, by show some (SV.val (.int .i64 _)) = some (SV.val (.int .i64 _)); congr 3; simp [D.szs], rfl, trivial⟩, trivial, rfl, rfl⟩ ?_
  rintro i ⟨hi, hz⟩
  refine ifd (fun h => ?_) (fun h => ?_)
  · obtain ⟨t, ht⟩ := at_some (l := l) (i := i) (by omega)
    have hx := at_map (f := Gl.d) ht
    have hs := D.szs_take hx
    have hs' := D.szs_le (l.map Gl.d) (i + 1)
    obtain ⟨ad, p, hel, hr⟩ := Gl.elem hsl ht
    refine elem_intro hel (call_gives (he t (mem_at ht) hr (by omega) (by omega) (D.wds_mem hw _ (mem_at hx))) ?_)
    refine ifd (fun h => ret_gives ?_ rfl) (fun h => ?_)
    · have := szR_lt h
      rw [szR_neg (by omega)]
    · have := szR_ge h
      refine num64 (by omega) (by omega) ⟨i + 1, ⟨by omega, by omega⟩, by omega, ⟨⟨rfl, ?_, rfl, trivial⟩, trivial, rfl, rfl⟩⟩
      rw [szR_pos this, hs]
      show some (SV.val (.int .i64 _)) = some (SV.val (.int .i64 _))
      congr 3; omega
  · obtain rfl : i = l.length := by omega
    rw [List.take_of_length_le (by simp)] at hz ⊢
    refine ret_gives ?_ rfl
    rw [szR_pos (by omega)]; congr 1; omega
theorem szGoal_spec : ∀ (x : Gl) {v : Value} {left : Int}, RepV μ x.d v → 0 ≤ left → left ≤ 1048576 → x.d.wd → Gives Tryz.prog 31 [v, .int .i64 left] μ (.int .i64 (szR left x.d.sz)) :=
  Gl.ind fun x ih v left hv hl hl2 hw => by
    have hv_ := Gl.inv hv
    obtain ⟨p, rfl, hA⟩ := hv_
    have hsz := Gl.sz_eq x
    rw [Gl.d_eq] at hw
    obtain ⟨A0, A1⟩ := hA
    have m1 := maxLen_le hw.2.1
    refine Spec.mk Tryz.func31 (by kernel_rfl) ?_
    intro r
    refine num64 (by omega) (by omega) (ifd (fun h => ret_gives (by rw [szR_neg (by omega)]) rfl) (fun h => ?_))
    refine call_gives (szTermS_spec A0 (by omega) (by omega) hw.2.2.1) ?_
    refine ifd (fun h => ret_gives (by have := szR_lt h; rw [szR_neg (by omega)]) rfl) (fun h => ?_)
    have q2 := szR_ge h
    rw [szR_pos q2] at h ⊢
    refine call_gives (szGoalS_of (l := x.goals) (fun t ht _ _ => ih t ht) A1 (by omega) (by omega) hw.2.2.2.1) ?_
    refine ifd (fun h => ret_gives (by have := szR_lt h; rw [szR_neg (by omega)]) rfl) (fun h => ?_)
    have q3 := szR_ge h
    rw [szR_pos q3] at h ⊢
    refine ret_gives ?_ rfl
    rw [szR_pos (by omega)]
    first | rfl | (congr 1; omega)
theorem toGoalS_of {l : List Gl} (he : ∀ t ∈ l, ∀ {μ : Mem} {v : Value}, RepV μ t.d v → t.d.sz ≤ 1048576 → Spec Tryz.prog 33 [v] μ fun v μ' => Fresh μ μ' t.d v)
    {base : Option Addr} {cap : Nat} (hsl : Sl μ 4 base l.length (l.map Gl.d)) (hb : l.length + D.szs (l.map Gl.d) ≤ 1048576) :
    Spec Tryz.prog 102 [.slice base l.length cap] μ fun v μ' => Fresh μ μ' (.sl 4 (l.map Gl.d)) v := by
  refine Spec.mk Tryz.func102 (by kernel_rfl) ?_
  refine make_intro l.length rfl rfl (by simp only; omega) (Nat.le_trans (m := 1048576) (by omega) (by decide)) ?_
  intro r
  refine loop_intro (fun p : Nat × List Value × Mem => μ.Le p.2.2 ∧ ∃ g, Filled 4 (.agg #[.int .i64 0, .string ⟨#[]⟩, .slice none 0 0, .slice none 0 0]) μ p.2.2 (l.map Gl.d) p.1 p.2.1 g)
    (fun (i, xs, μ') => ⟨[(0, .val (.slice base l.length cap)), (3, .row 0 (some r) l.length l.length), (4, .val (.int .i64 i))], [(0, some (.row (some r) l.length 55 4 xs))], 1, μ', Mem.nil⟩) (fun p => l.length - p.1)
    (0, List.replicate l.length (.agg #[.int .i64 0, .string ⟨#[]⟩, .slice none 0 0, .slice none 0 0]), μ) ⟨Mem.Le.refl μ, _, Filled.start (by simp)⟩ (fun (_, _, _) => ⟨rfl, rfl⟩) ⟨⟨rfl, rfl, rfl, trivial⟩, ⟨rfl, trivial⟩, rfl, rfl⟩ ?_
  rintro ⟨i, xs, μ'⟩ ⟨hle, g, hf⟩
  dsimp only at hle hf
  have hi := hf.le
  have hlen := hf.len
  rw [List.length_map] at hi hlen
  refine ifd (fun h => ?_) (fun h => ?_)
  · obtain ⟨t, ht⟩ := at_some (l := l) (i := i) (by omega)
    have hx := at_map (f := Gl.d) ht
    have hs := D.szs_mem hx
    obtain ⟨ad, p, hel, hr⟩ := Gl.elem (hsl.mono hle) ht
    refine elem_intro hel (call_plain (he t (mem_at ht) hr (by omega)) fun v μ'' hle2 hfr => ?_)
    obtain ⟨g', hf'⟩ := hf.step hx (Gl.d_n t) hfr hle2
    obtain ⟨p2, rfl⟩ := Gl.invV hfr.rep
    refine rel_intro i rfl (by omega) ?_
    refine get_intro _ (hf.rest i (by omega) (by simpa using h)) ?_
    refine num64 (by omega) (by omega) ⟨(i + 1, _, μ''), ⟨hle.trans hle2, g', hf'⟩, by dsimp only; omega, ⟨⟨rfl, rfl, rfl, trivial⟩, ⟨rfl, trivial⟩, rfl, rfl⟩⟩
  · obtain rfl : i = l.length := by omega
    refine ret_frz [0] fun μ2 hle2 hno hrow => .inl ?_
    have := Fresh.ofRow (hf.all (by simp)) hf.sub hf.new hle hle2 hno hrow (Nat.le_trans (m := 1048576) (by omega) (by decide))
    rw [hlen] at this
    exact this
set_option maxRecDepth 4000 in
theorem toGoal_spec : ∀ (x : Gl) {μ : Mem} {v : Value}, RepV μ x.d v → x.d.sz ≤ 1048576 → Spec Tryz.prog 33 [v] μ fun v μ' => Fresh μ μ' x.d v :=
  Gl.ind fun x ih μ v hv hb => by
    have hv_ := Gl.inv hv
    obtain ⟨p, rfl, hA⟩ := hv_
    have hsz := Gl.sz_eq x
    obtain ⟨A0, A1⟩ := hA
    refine Spec.mk Tryz.func33 (by kernel_rfl) ?_
    intro r1 r2 r3
    refine call_plain (toTermS_spec A0 (by omega)) fun u0 μ0 hle0 hf0 => ?_
    replace A1 := A1.mono hle0
    have hv_ := Rep.sl hf0.rep
    obtain ⟨bb0, cc0, rfl, _⟩ := hv_
    refine call_plain (toGoalS_of (l := x.goals) (fun t ht _ _ => ih t ht) A1 (by omega)) fun u1 μ1 hle1 hf1 => ?_
    have hv_ := Rep.sl hf1.rep
    obtain ⟨bb1, cc1, rfl, _⟩ := hv_
    rw [Gl.d_eq]
    exact ret_plain (FreshS.st (FreshS.int (FreshS.str (FreshS.cons hf0 hle0 (hle1) (FreshS.cons hf1 hle1 (Mem.Le.refl _) (FreshS.nil))))))
theorem eqGoalS_of {l : List Gl} (he : ∀ t ∈ l, ∀ {v v' : Value}, RepV μ t.d v → RepV μ t.d v' → Gives Tryz.prog 35 [v, v'] μ (.bool true))
    {base base' : Option Addr} {cap cap' : Nat} (hl : Sl μ 4 base l.length (l.map Gl.d)) (hl' : Sl μ 4 base' l.length (l.map Gl.d)) :
    Gives Tryz.prog 106 [.slice base l.length cap, .slice base' l.length cap'] μ (.bool true) := by
  have hn := maxLen_le hl.max
  refine Spec.mk Tryz.func106 (by kernel_rfl) ?_
  refine ifnd (fun h => absurd rfl h) (fun _ => ?_)
  refine loop_intro (fun i : Nat => i ≤ l.length) (fun i => ⟨[(0, .val (.slice base l.length cap)), (1, .val (.slice base' l.length cap')), (5, .val (.int .i64 i))], [], 0, μ, Mem.nil⟩) (fun i => l.length - i)
    0 (by omega) (fun i => ⟨rfl, rfl⟩) ⟨⟨rfl, rfl, rfl, trivial⟩, trivial, rfl, rfl⟩ ?_
  intro i hi
  refine ifd (fun h => ?_) (fun h => ?_)
  · obtain ⟨t, ht⟩ := at_some (l := l) (i := i) (by omega)
    obtain ⟨ad, p, hel, hr⟩ := Gl.elem hl ht
    obtain ⟨ad', p', hel', hr'⟩ := Gl.elem hl' ht
    refine elem_intro hel (elem_intro hel' (call_gives (he t (mem_at ht) hr hr') ?_))
    refine if_intro (fun h => nomatch h) (fun _ => ?_)
    exact num64 (by omega) (by omega) ⟨i + 1, by omega, by omega, ⟨⟨rfl, rfl, rfl, trivial⟩, trivial, rfl, rfl⟩⟩
  · exact ret_gives rfl rfl
theorem eqGoal_spec : ∀ (x : Gl) {v v' : Value}, RepV μ x.d v → RepV μ x.d v' → Gives Tryz.prog 35 [v, v'] μ (.bool true) :=
  Gl.ind fun x ih v v' hv hv' => by
    have hv_ := Gl.inv hv
    obtain ⟨p, rfl, hA⟩ := hv_
    have hv_ := Gl.inv hv'
    obtain ⟨p', rfl, hB⟩ := hv_
    obtain ⟨A0, A1⟩ := hA
    obtain ⟨B0, B1⟩ := hB
    refine Spec.mk Tryz.func35 (by kernel_rfl) ?_
    intro r1 r2
    refine ifnd (fun h => absurd rfl h) (fun _ => ?_)
    refine ifnd (fun h => absurd rfl h) (fun _ => ?_)
    refine call_gives (eqTermS_spec A0 B0) ?_
    refine if_intro (fun h => nomatch h) (fun _ => ?_)
    refine call_gives (eqGoalS_of (l := x.goals) (fun t ht _ _ => ih t ht) A1 B1) ?_
    refine if_intro (fun h => nomatch h) (fun _ => ?_)
    exact ret_gives rfl rfl
theorem read_Goal : Reads Tryz.prog 51 fun d => ∃ x : Gl, d = x.d ∧ x.d.wd := fun n => by
  induction n using Nat.strongRecOn with
  | ind n ih =>
    match n, ih with
    | 0, _ => exact ReadsTo.zero _
    | n + 1, ih =>
      have hs : ReadsTo Tryz.prog n 49 fun d => ∃ xs, d = .sl 4 xs ∧ ∀ x ∈ xs, ∃ t : Gl, x = t.d ∧ t.d.wd := by
        match n, ih with
        | 0, _ => exact ReadsTo.zero _
        | n + 1, ih => exact reads_slice ti49.kind (cellsOf_tt ti51) (ih n (by omega)) (fun d h => by obtain ⟨t, rfl, _⟩ := h; exact Gl.d_n t)
      exact (reads_struct ti51 rfl (FieldsTo.cons ti3 (reads_int und_int n) (FieldsTo.cons ti9 (reads_str und_string n) (FieldsTo.cons ti37 (read_TermS n) (FieldsTo.cons ti49 (hs) FieldsTo.nil))))).weaken fun d h => by
        obtain ⟨ds, rfl, h⟩ := h
        obtain ⟨_, _, rfl, ⟨x0, rfl, w0⟩, q0⟩ := h.cons
        obtain ⟨_, _, rfl, ⟨x1, rfl, w1⟩, q1⟩ := q0.cons
        obtain ⟨_, _, rfl, ⟨x2, rfl, w2⟩, q2⟩ := q1.cons
        obtain ⟨_, _, rfl, ⟨xs, rfl, hxs⟩, q3⟩ := q2.cons
        obtain ⟨x3, rfl⟩ := lift_list (f := Gl.d) fun x h => by obtain ⟨t, h, _⟩ := hxs x h; exact ⟨t, h⟩
        have w3 : D.wds (x3.map Gl.d) := D.wds_of fun x hm => by obtain ⟨t, rfl, h⟩ := hxs x hm; exact h
        obtain rfl := q3.nil
        refine ⟨.mk x0 x1 x2 x3, (Gl.d_eq (.mk x0 x1 x2 x3)).symm, ?_⟩
        rw [Gl.d_eq]
        exact ⟨w0, w1, w2, w3, trivial⟩
end
end Go.Vx

/- Contracts: names of relations. -/
namespace Go.Vx
open Go.Proofs Classical
/-! ### Names of relations -/
def rsv : List ByteArray := [⟨#[116, 114, 117, 101]⟩, ⟨#[102, 97, 105, 108]⟩, ⟨#[115, 121, 109, 98, 111, 108]⟩, ⟨#[110, 117, 109, 98, 101, 114]⟩, ⟨#[97, 98, 115, 101, 110, 116]⟩, ⟨#[97, 110, 100]⟩, ⟨#[111, 114]⟩, ⟨#[110, 111, 116]⟩, ⟨#[100, 101, 102, 105, 110, 101]⟩]
def IsRel (s : ByteArray) : Prop := s ∉ rsv ∧ IsNm s
theorem impl_IsRelName_spec (s : ByteArray) (μ : Mem) : Gives Tryz.prog 210 [.string s] μ (.bool (decide (IsRel s))) := by
  refine Spec.mk Tryz.func210 (by kernel_rfl) ?_
  have bad : s ∈ rsv → Value.bool false = .bool (decide (IsRel s)) := fun h => by
    have : ¬ IsRel s := fun k => k.1 h
    simp [this]
  repeat' (first
    | refine ifd (fun h => ?_) (fun h => ?_) <;> try contradiction
    | refine call_gives (impl_IsName_spec s μ) (ret_gives ?_ rfl)
    | refine ret_gives ?_ rfl)
  all_goals first
    | (refine bad ?_; subst_vars; simp [rsv])
    | (have : s ∉ rsv := by simp only [rsv, List.mem_cons, List.not_mem_nil, or_false, not_or]; simp_all
       simp [IsRel, this])
theorem spec_IsRelName_spec (s : ByteArray) (hs : s.size ≤ maxLen) (μ : Mem) : Gives Tryz.prog 202 [.string s] μ (.bool (decide (IsRel s))) := by
  refine Spec.mk Tryz.func202 (by kernel_rfl) ?_
  have bad : s ∈ rsv → Value.bool false = .bool (decide (IsRel s)) := fun h => by
    have : ¬ IsRel s := fun k => k.1 h
    simp [this]
  intro r
  refine loop_intro (fun i : Nat => i ≤ 9 ∧ ∀ x ∈ rsv.take i, x ≠ s) (fun i => ⟨[(0, .val (.string s)), (5, .row 0 (some r) 9 9), (6, .val (.int .i64 9)), (7, .val (.int .i64 i))], [(0, some (.row (some r) 9 9 1 (rsv.map .string)))], 1, μ, Mem.nil⟩) (fun i => 9 - i)
    0 ⟨by omega, by simp⟩ (fun i => ⟨rfl, rfl⟩) ⟨⟨rfl, rfl, rfl, rfl, trivial⟩, ⟨rfl, trivial⟩, rfl, rfl⟩ ?_
  rintro i ⟨hi, hall⟩
  refine ifd (fun h => ?_) (fun h => ?_)
  · have hi : i < 9 := by omega
    obtain ⟨x, hx⟩ : ∃ x, rsv[i]? = some x := ⟨_, List.getElem?_eq_getElem (by simpa [rsv] using hi)⟩
    refine rel_intro i rfl (by omega) (get_intro (.string x) (by simp [hx]) ?_)
    refine ifd (fun h => ret_gives (bad ?_) rfl) (fun h => ?_)
    · subst h; exact List.mem_of_getElem? hx
    · refine num64 (by omega) (by omega) ⟨i + 1, ⟨by omega, fun y hy => ?_⟩, by omega, ⟨⟨rfl, rfl, rfl, rfl, trivial⟩, ⟨rfl, trivial⟩, rfl, rfl⟩⟩
      rw [List.take_add_one, hx] at hy
      simp only [Option.toList_some, List.mem_append, List.mem_singleton] at hy
      rcases hy with hy | rfl
      · exact hall y hy
      · exact h
  · refine call_gives (spec_IsName_spec s hs μ) (ret_gives ?_ rfl)
    have hi : i = 9 := by omega
    subst hi
    have : s ∉ rsv := fun k => hall s (by simpa [rsv] using k) rfl
    simp [IsRel, this]
end Go.Vx

/- Contracts: which goals are well-formed. -/
namespace Go.Vx
open Go.Proofs Classical
/-! ### Plain -/
mutual
def Gl.cnt : Gl → Nat
  | .mk _ _ _ l => 1 + Gl.cnts l
def Gl.cnts : List Gl → Nat
  | [] => 0
  | t :: r => t.cnt + Gl.cnts r
end
theorem Gl.cnt_eq1 (g : Gl) : g.cnt = 1 + Gl.cnts g.goals := by cases g; rfl
theorem Gl.cnt_pos (g : Gl) : 1 ≤ g.cnt := by rw [Gl.cnt_eq1]; omega
theorem Gl.cnts_append : ∀ (a c : List Gl), Gl.cnts (a ++ c) = Gl.cnts a + Gl.cnts c
  | [], c => by simp [Gl.cnts]
  | d :: r, c => by simp [Gl.cnts, Gl.cnts_append r c, Nat.add_assoc]
theorem Gl.cnts_take {xs : List Gl} {j : Nat} {x : Gl} (h : xs[j]? = some x) : Gl.cnts (xs.take (j + 1)) = Gl.cnts (xs.take j) + x.cnt := by
  rw [List.take_add_one, h, Option.toList_some, Gl.cnts_append]; simp [Gl.cnts]
theorem Gl.cnts_le (xs : List Gl) (j : Nat) : Gl.cnts (xs.take j) ≤ Gl.cnts xs := by
  have := Gl.cnts_append (xs.take j) (xs.drop j)
  rw [List.take_append_drop] at this; omega
/-- What a goal's own node must be. -/
structure TopOk (g : Gl) : Prop where
  tm : ∀ t ∈ g.terms, t.Ok
  k0 : 0 ≤ g.kind
  k1 : g.kind ≤ 10
  nm : g.kind ≠ 9 → g.name = ⟨#[]⟩
  rel : g.kind = 9 → IsRel g.name
  ln9 : g.kind = 9 → g.terms.length ≤ 4
  ln2 : g.kind = 2 ∨ g.kind = 3 ∨ g.kind = 6 → g.terms.length = 2
  ln1 : g.kind = 4 ∨ g.kind = 5 → g.terms.length = 1
  ln0 : g.kind = 0 ∨ g.kind = 1 ∨ g.kind = 7 ∨ g.kind = 8 ∨ g.kind = 10 → g.terms.length = 0
  gl : g.goals.length ≤ 8
  gl0 : g.kind < 7 ∨ g.kind = 9 → g.goals.length = 0
  gl1 : g.kind = 10 → g.goals.length = 1
  sy : g.kind = 6 → ∀ a, g.terms[0]? = some a → a.kind = 2
  cl : g.kind = 10 → ∀ b, g.goals[0]? = some b → b.kind = 9
inductive Gl.Sh : Gl → Prop
  | mk {g : Gl} (top : TopOk g) (sub : ∀ x ∈ g.goals, x.Sh) : g.Sh
theorem Gl.Sh.top {g : Gl} (h : g.Sh) : TopOk g := by cases h; assumption
theorem Gl.Sh.sub {g : Gl} (h : g.Sh) : ∀ x ∈ g.goals, x.Sh := by cases h; assumption
def Gl.Ok (g : Gl) : Prop := g.Sh ∧ g.cnt ≤ 80
section
variable {μ : Mem}
theorem l13Count_spec : ∀ (g : Gl) {v : Value} {most : Int}, RepV μ g.d v → -1000000000000 ≤ most → most ≤ 1000000000000 → Gives Tryz.prog 185 [v, .int .i64 most] μ (.int .i64 (upTo g.cnt most)) :=
  Gl.ind fun g ih v most hv h1 h2 => by
    have hv_ := Gl.inv hv
    obtain ⟨p, rfl, -, hsl⟩ := hv_
    have hn := maxLen_le hsl.max
    have hge := Gl.cnt_eq1 g
    generalize hl : g.goals = l at *
    refine Spec.mk Tryz.func185 (by kernel_rfl) ?_
    intro r
    refine loop_intro (fun i : Nat => i ≤ l.length) (fun i => ⟨[(1, .val (.int .i64 most)), (5, .val (.int .i64 (upTo (1 + Gl.cnts (l.take i) : Nat) most))), (9, .val (.slice p.2.1 l.length p.2.2)), (10, .val (.int .i64 l.length)), (11, .val (.int .i64 i))], [], 1, μ, Mem.nil⟩) (fun i => l.length - i)
      0 (by omega) (fun i => ⟨rfl, rfl⟩) ⟨⟨rfl, by show some (SV.val (.int .i64 _)) = some (SV.val (.int .i64 _)); congr 3; simp [Gl.cnts, upTo]; omega, rfl, rfl, rfl, trivial⟩, trivial, rfl, rfl⟩ ?_
    intro i hi
    refine ifd (fun h => ?_) (fun h => ?_)
    · have hv_ := at_some (l := l) (i := i) (by omega)
      obtain ⟨t, ht⟩ := hv_
      have hc := Gl.cnts_take ht
      have hc' := Gl.cnts_le l (i + 1)
      have hv_ := Gl.elem hsl ht
      obtain ⟨ad, p, hel, hr⟩ := hv_
      refine elem_intro hel ?_
      intro r2
      refine ifd (fun h => ret_gives ?_ rfl) (fun h => ?_)
      · simp only [upTo] at h ⊢
        congr 1; omega
      · have hb : upTo (1 + Gl.cnts (l.take i) : Nat) most ≤ 1000000000001 ∧ 1 ≤ upTo (1 + Gl.cnts (l.take i) : Nat) most := by unfold upTo; omega
        refine num64 (by omega) (by omega) ?_
        refine call_gives (ih t (mem_at ht) hr (by omega) (by omega)) ?_
        refine num_eq (x := upTo (1 + Gl.cnts (l.take (i + 1)) : Nat) most) ?_ ?_
        · have hb2 : upTo (t.cnt : Int) (most - upTo (1 + Gl.cnts (l.take i) : Nat) most) ≤ 1000000000001 ∧ 1 ≤ upTo (t.cnt : Int) (most - upTo (1 + Gl.cnts (l.take i) : Nat) most) := by
            have := t.cnt_pos
            unfold upTo at hb h ⊢
            omega
          rw [wrap64 (by omega) (by omega), hc]
          unfold upTo at h ⊢; omega
        · exact num64 (by omega) (by omega) ⟨i + 1, by omega, by omega, ⟨⟨rfl, rfl, rfl, rfl, rfl, trivial⟩, trivial, rfl, rfl⟩⟩
    · obtain rfl : i = l.length := by omega
      rw [List.take_length]
      exact ret_gives (by rw [hge]) rfl
theorem kinds_at {n k : Nat} (hk : k ≤ 10) : ([.int .i64 0, .int .i64 0, .int .i64 2, .int .i64 2, .int .i64 1, .int .i64 1, .int .i64 2, .int .i64 0, .int .i64 0, .int .i64 n, .int .i64 0] : List Value)[k]? = some (.int .i64 (if k = 2 ∨ k = 3 ∨ k = 6 then 2 else if k = 4 ∨ k = 5 then 1 else if k = 9 then n else 0)) := by
  match k, hk with
  | 0, _ => rfl
  | 1, _ => rfl
  | 2, _ => rfl
  | 3, _ => rfl
  | 4, _ => rfl
  | 5, _ => rfl
  | 6, _ => rfl
  | 7, _ => rfl
  | 8, _ => rfl
  | 9, _ => rfl
  | 10, _ => rfl
theorem l13Shape_spec : ∀ (g : Gl) {v : Value}, RepV μ g.d v → g.d.wd → Gives Tryz.prog 186 [v] μ (.bool (decide g.Sh)) :=
  Gl.ind fun g ih v hv hw => by
    have hv_ := Gl.inv hv
    obtain ⟨p, rfl, hts, hgs⟩ := hv_
    have hn1 := maxLen_le hts.max
    have hn2 := maxLen_le hgs.max
    rw [Gl.d_eq] at hw
    have hs : g.name.size ≤ maxLen := hw.2.1
    have wt : D.wds (g.terms.map Tm.d) := hw.2.2.1
    have wg : D.wds (g.goals.map Gl.d) := hw.2.2.2.1
    have bad : ¬ TopOk g → Value.bool false = .bool (decide g.Sh) := fun h => isF fun k => h k.top
    refine Spec.mk Tryz.func186 (by kernel_rfl) ?_
    intro r
    refine call_gives (l01In_spec _ _ _ _) ?_
    refine ifnd (fun h => ret_gives (bad fun T => h ⟨T.k0, T.k1⟩) rfl) (fun hk => ?_)
    refine ifnd (fun h9 => ifnd (fun hne => ret_gives (bad fun T => hne (T.nm h9)) rfl) (fun hnm => ?_)) (fun h9 => ?_)
    all_goals refine call_gives (l02AllOk_spec hts wt) ?_
    all_goals refine ifnd (fun h => ret_gives (bad fun T => h T.tm) rfl) (fun htm => ?_)
    all_goals intro r2
    all_goals obtain ⟨k, hk'⟩ : ∃ k : Nat, g.kind = k := ⟨g.kind.toNat, by omega⟩
    all_goals refine rel_intro k hk' (by omega) (get_intro _ (kinds_at (by omega)) ?_)
    all_goals refine ifnd (fun hlen => ret_gives (bad fun T => hlen ?_) rfl) (fun hlen => ?_)
    any_goals (have e9 := T.ln9; have e2 := T.ln2; have e1 := T.ln1; have e0 := T.ln0; have := T.gl; omega)
    all_goals refine ifd (fun h4 => ret_gives (bad fun T => ?_) rfl) (fun h4 => ?_)
    any_goals (have e9 := T.ln9; have e2 := T.ln2; have e1 := T.ln1; have e0 := T.ln0; have := T.gl; omega)
    all_goals refine ifd (fun h7 => ifd (fun h0 => ret_gives (bad fun T => ?_) rfl) (fun h0 => ?_)) (fun h7 => ?_)
    any_goals (have e9 := T.gl0; omega)
    all_goals refine ifd (fun h8 => ret_gives (bad fun T => ?_) rfl) (fun h8 => ?_)
    any_goals (have e9 := T.gl; omega)
    all_goals refine loop_intro (fun i : Nat => i ≤ g.goals.length ∧ ∀ t ∈ g.goals.take i, t.Sh) (fun i => ⟨[(1, .loc 0 r 0), (61, .val (.slice p.2.1 g.goals.length p.2.2)), (62, .val (.int .i64 g.goals.length)), (63, .val (.int .i64 i))], [(0, some (.cells r [.val (.int .i64 g.kind), .val (.string g.name), .val (.slice p.1.1 g.terms.length p.1.2), .val (.slice p.2.1 g.goals.length p.2.2)] 55))], 2, μ, Mem.nil⟩) (fun i => g.goals.length - i) 0 ⟨by omega, by simp⟩ (fun i => ⟨rfl, rfl⟩) ⟨⟨rfl, rfl, rfl, rfl, trivial⟩, ⟨rfl, trivial⟩, rfl, rfl⟩ ?_
    all_goals rintro i ⟨hi, hall⟩
    all_goals refine ifd (fun h => ?_) (fun h => ?_)
    any_goals
      have hv_ := at_some (l := g.goals) (i := i) (by omega)
      obtain ⟨t, ht⟩ := hv_
      have hv_ := Gl.elem hgs ht
      obtain ⟨ad, p, hel, hr⟩ := hv_
      refine elem_intro hel ?_
      intro r3
      refine call_gives (ih t (mem_at ht) hr (D.wds_mem wg _ (mem_at (at_map (f := Gl.d) ht)))) ?_
      refine ifnd (fun h => ret_gives (isF fun S => h (S.sub t (mem_at ht))) rfl) (fun h => ?_)
      refine num64 (by omega) (by omega) ⟨i + 1, ⟨by omega, fun x hx => ?_⟩, by omega, ⟨⟨rfl, rfl, rfl, rfl, trivial⟩, ⟨rfl, trivial⟩, rfl, rfl⟩⟩
      rw [List.take_add_one, ht, Option.toList_some, List.mem_append, List.mem_singleton] at hx
      rcases hx with hx | rfl
      · exact hall x hx
      · exact h
    all_goals obtain rfl : i = g.goals.length := by omega
    all_goals rw [List.take_length] at hall
    all_goals
      have mk : (g.kind = 9 → IsRel g.name) → (g.kind = 10 → g.goals.length = 1) → (g.kind = 9 → g.goals.length = 0) → (g.kind = 6 → ∀ a, g.terms[0]? = some a → a.kind = 2) → (g.kind = 10 → ∀ b, g.goals[0]? = some b → b.kind = 9) → g.Sh := fun a b c d e =>
        .mk ⟨htm, by omega, by omega, by first | exact fun _ => hnm | exact fun h => absurd h9 h, a, by omega, by omega, by omega, by omega, by omega, by omega, b, d, e⟩ hall
    all_goals refine ifd (fun h6 => ?_) (fun h6 => ?_)
    any_goals
      have hv_ := at_some (l := g.terms) (i := 0) (by omega)
      obtain ⟨a, ha⟩ := hv_
      have hv_ := Tm.elem hts ha
      obtain ⟨ad, p, hel, hr⟩ := hv_
      refine elem_intro hel ?_
      exact ret_gives (isI ⟨fun hh => mk (by omega) (by omega) (by omega) (fun _ x hx => by rw [ha] at hx; cases hx; exact hh) (by omega), fun S => S.top.sy h6 a ha⟩) rfl
    all_goals refine ifd (fun h9 => ?_) (fun h9 => ?_)
    any_goals omega
    any_goals
      refine ifd (fun h0 => call_gives (spec_IsRelName_spec _ hs _) (ret_gives (isI ⟨fun hh => mk (fun _ => hh) (by omega) (by omega) (by omega) (by omega), fun S => S.top.rel h9⟩) rfl)) (fun h0 => ret_gives (isF fun S => ?_) rfl)
      have := S.top.gl0; omega
    all_goals refine ifd (fun h10 => ?_) (fun h10 => ret_gives (isT (mk (by omega) (by omega) (by omega) (by omega) (by omega))) rfl)
    any_goals omega
    all_goals refine ifd (fun h1 => ?_) (fun h1 => ret_gives (isF fun S => h1 ?_) rfl)
    any_goals (have := S.top.gl1; omega)
    all_goals
      have hv_ := at_some (l := g.goals) (i := 0) (by omega)
      obtain ⟨b, hb⟩ := hv_
      have hv_ := Gl.elem hgs hb
      obtain ⟨ad, p, hel, hr⟩ := hv_
      refine elem_intro hel ?_
      exact ret_gives (isI ⟨fun hh => mk (by omega) (by omega) (by omega) (by omega) (fun _ x hx => by rw [hb] at hx; cases hx; exact hh), fun S => S.top.cl h10 b hb⟩) rfl
end
end Go.Vx

/- Contracts: well-formed goals, both sides. -/
namespace Go.Vx
open Go.Proofs Classical
/-- 'goalNodes': the nodes of a well-formed goal that fits; else -1. -/
noncomputable def Gl.nodes (t : Gl) (room : Int) : Int := if t.Sh ∧ (t.cnt : Int) ≤ room then t.cnt else -1
theorem Gl.nodes_neg {t : Gl} {room : Int} (h : ¬ (t.Sh ∧ (t.cnt : Int) ≤ room)) : Value.int .i64 (-1) = .int .i64 (t.nodes room) := by rw [Gl.nodes, if_neg h]
theorem Gl.nodes_pos {t : Gl} {room : Int} (h : t.Sh) (h2 : (t.cnt : Int) ≤ room) : t.nodes room = t.cnt := by rw [Gl.nodes, if_pos ⟨h, h2⟩]
theorem Gl.nodes_lt {t : Gl} {room : Int} (h : t.nodes room < 0) : ¬ (t.Sh ∧ (t.cnt : Int) ≤ room) := fun k => by rw [Gl.nodes, if_pos k] at h; omega
theorem Gl.nodes_ge {t : Gl} {room : Int} (h : ¬ t.nodes room < 0) : t.Sh ∧ (t.cnt : Int) ≤ room ∧ t.nodes room = t.cnt := by
  by_cases k : t.Sh ∧ (t.cnt : Int) ≤ room
  · exact ⟨k.1, k.2, by rw [Gl.nodes, if_pos k]⟩
  · rw [Gl.nodes, if_neg k] at h; omega
/-- The map of how many terms a kind has. -/
noncomputable def kmap : List (Value × Value) := mset (mset (mset (mset (mset [] (.int .i64 2) (.int .i64 2)) (.int .i64 3) (.int .i64 2)) (.int .i64 4) (.int .i64 1)) (.int .i64 5) (.int .i64 1)) (.int .i64 6) (.int .i64 2)
theorem kmap_get (k : Int) : mget kmap (.int .i64 k) = if k = 6 then some (.int .i64 2) else if k = 5 then some (.int .i64 1) else if k = 4 then some (.int .i64 1) else if k = 3 then some (.int .i64 2) else if k = 2 then some (.int .i64 2) else none := by
  unfold kmap
  rw [mget_int, mget_int, mget_int, mget_int, mget_int]
  rfl
section
variable {μ : Mem}
theorem spec_GoalOk_spec (g : Gl) {v : Value} (hv : RepV μ g.d v) (hw : g.d.wd) : Gives Tryz.prog 99 [v] μ (.bool (decide g.Ok)) := by
  have hv_ := Gl.invV hv
  obtain ⟨p, rfl⟩ := hv_
  refine Spec.mk Tryz.func99 (by kernel_rfl) ?_
  intro r
  refine call_gives (l13Count_spec g hv (by decide) (by decide)) ?_
  refine ifd (fun h => ?_) (fun h => ret_gives (isF fun hh => ?_) rfl)
  · refine call_gives (l13Shape_spec g hv hw) (ret_gives (isI ⟨fun hh => ⟨hh, ?_⟩, fun hh => hh.1⟩) rfl)
    unfold upTo at h; omega
  · have := hh.2; unfold upTo at h; omega
theorem goalNodes_spec : ∀ (g : Gl) {v : Value} {room : Int}, RepV μ g.d v → -1000000000000 ≤ room → room ≤ 1000000000000 → Gives Tryz.prog 193 [v, .int .i64 room] μ (.int .i64 (g.nodes room)) :=
  Gl.ind fun g ih v room hv hr1 hr2 => by
    have hv_ := Gl.inv hv
    obtain ⟨p, rfl, hts, hgs⟩ := hv_
    have hn1 := maxLen_le hts.max
    have hn2 := maxLen_le hgs.max
    have hpos := g.cnt_pos
    have hce := g.cnt_eq1
    have bad : ¬ TopOk g → Value.int .i64 (-1) = .int .i64 (g.nodes room) := fun h => Gl.nodes_neg fun k => h k.1.top
    refine Spec.mkO [18] Tryz.func193 (by kernel_rfl) ?_
    intro r
    refine ifd (fun h => ret_gives (Gl.nodes_neg fun k => by omega) rfl) (fun h1 => ?_)
    refine call_gives (termsOk_spec hts) ?_
    refine ifnd (fun h => ret_gives (bad fun T => h T.tm) rfl) (fun htm => ?_)
    intro rM hmM hoM
    have k0 : MapOk IntKey [] := MapOk.nil
    have k1 := k0.int (n := 2) (.int .i64 2)
    have k2 := k1.int (n := 3) (.int .i64 2)
    have k3 := k2.int (n := 4) (.int .i64 1)
    have k4 := k3.int (n := 5) (.int .i64 1)
    have k5 := k4.int (n := 6) (.int .i64 2)
    refine upd_intro _ (Mem.set_at _ _ _) (k0.weaken (by rintro _ ⟨n, rfl⟩; rfl)) rfl ?_
    refine upd_intro _ (Mem.set_at _ _ _) (k1.weaken (by rintro _ ⟨n, rfl⟩; rfl)) rfl ?_
    refine upd_intro _ (Mem.set_at _ _ _) (k2.weaken (by rintro _ ⟨n, rfl⟩; rfl)) rfl ?_
    refine upd_intro _ (Mem.set_at _ _ _) (k3.weaken (by rintro _ ⟨n, rfl⟩; rfl)) rfl ?_
    refine upd_intro _ (Mem.set_at _ _ _) (k4.weaken (by rintro _ ⟨n, rfl⟩; rfl)) rfl ?_
    generalize hh : Mem.set (Mem.set (Mem.set (Mem.set (Mem.set (Mem.set _ rM _) rM _) rM _) rM _) rM _) rM _ = h0
    have hm : h0 rM = some (mapO kmap) := by subst hh; exact Mem.set_at _ _ _
    clear hh hmM hoM
    have one : TopOk g → g.goals.length = 0 → Value.int .i64 1 = .int .i64 (g.nodes room) := fun T h => by
      have e : g.goals = [] := List.eq_nil_of_length_eq_zero h
      have hc : g.cnt = 1 := by rw [hce, e]; rfl
      rw [Gl.nodes_pos (.mk T (by rw [e]; simp)) (by omega), hc]; rfl
    have htm : ∀ t ∈ g.terms, t.Ok := htm
    rcases (by omega : g.kind = 6 ∨ g.kind = 5 ∨ g.kind = 4 ∨ g.kind = 3 ∨ g.kind = 2 ∨ ¬ (2 ≤ g.kind ∧ g.kind ≤ 6)) with e | e | e | e | e | e
    · refine look_intro kmap (some (.int .i64 2)) hm (k5.weaken (by rintro _ ⟨n, rfl⟩; rfl)) rfl (by rw [kmap_get]; simp [e]) ?_
      repeat (refine ifd (fun h => ?_) (fun h => ?_) <;> try (exfalso; omega))
      refine ifnd (fun h => ret_gives (bad fun T => h (T.nm (by omega))) rfl) (fun hnm => ?_)
      refine ifnd (fun h => ret_gives (bad fun T => h (by have := T.gl0; omega)) rfl) (fun hg0 => ?_)
      refine ifnd (fun h => ret_gives (bad fun T => h (by have := T.ln2; omega)) rfl) (fun hl => ?_)
      refine ifd (fun _ => ?_) (fun h => absurd e h)
      have hv_ := at_some (l := g.terms) (i := 0) (by omega)
      obtain ⟨a, ha⟩ := hv_
      have hv_ := Tm.elem hts ha
      obtain ⟨ad, p, hel, hr⟩ := hv_
      refine elem_intro hel ?_
      refine ifnd (fun h => ret_gives (bad fun T => h (T.sy e a ha)) rfl) (fun h => ?_)
      exact ret_gives (one ⟨htm, by omega, by omega, fun _ => hnm, by omega, by omega, by omega, by omega, by omega, by omega, by omega, by omega, fun _ x hx => by rw [ha] at hx; cases hx; exact h, by omega⟩ (by omega)) rfl
    · refine look_intro kmap (some (.int .i64 1)) hm (k5.weaken (by rintro _ ⟨n, rfl⟩; rfl)) rfl (by rw [kmap_get]; simp [e]) ?_
      repeat (refine ifd (fun h => ?_) (fun h => ?_) <;> try (exfalso; omega))
      refine ifnd (fun h => ret_gives (bad fun T => h (T.nm (by omega))) rfl) (fun hnm => ?_)
      refine ifnd (fun h => ret_gives (bad fun T => h (by have := T.gl0; omega)) rfl) (fun hg0 => ?_)
      refine ifnd (fun h => ret_gives (bad fun T => h (by have := T.ln1; omega)) rfl) (fun hl => ?_)
      refine ifd (fun h => by omega) (fun h => ?_)
      exact ret_gives (one ⟨htm, by omega, by omega, fun _ => hnm, by omega, by omega, by omega, by omega, by omega, by omega, by omega, by omega, by omega, by omega⟩ (by omega)) rfl
    · refine look_intro kmap (some (.int .i64 1)) hm (k5.weaken (by rintro _ ⟨n, rfl⟩; rfl)) rfl (by rw [kmap_get]; simp [e]) ?_
      repeat (refine ifd (fun h => ?_) (fun h => ?_) <;> try (exfalso; omega))
      refine ifnd (fun h => ret_gives (bad fun T => h (T.nm (by omega))) rfl) (fun hnm => ?_)
      refine ifnd (fun h => ret_gives (bad fun T => h (by have := T.gl0; omega)) rfl) (fun hg0 => ?_)
      refine ifnd (fun h => ret_gives (bad fun T => h (by have := T.ln1; omega)) rfl) (fun hl => ?_)
      refine ifd (fun h => by omega) (fun h => ?_)
      exact ret_gives (one ⟨htm, by omega, by omega, fun _ => hnm, by omega, by omega, by omega, by omega, by omega, by omega, by omega, by omega, by omega, by omega⟩ (by omega)) rfl
    · refine look_intro kmap (some (.int .i64 2)) hm (k5.weaken (by rintro _ ⟨n, rfl⟩; rfl)) rfl (by rw [kmap_get]; simp [e]) ?_
      repeat (refine ifd (fun h => ?_) (fun h => ?_) <;> try (exfalso; omega))
      refine ifnd (fun h => ret_gives (bad fun T => h (T.nm (by omega))) rfl) (fun hnm => ?_)
      refine ifnd (fun h => ret_gives (bad fun T => h (by have := T.gl0; omega)) rfl) (fun hg0 => ?_)
      refine ifnd (fun h => ret_gives (bad fun T => h (by have := T.ln2; omega)) rfl) (fun hl => ?_)
      refine ifd (fun h => by omega) (fun h => ?_)
      exact ret_gives (one ⟨htm, by omega, by omega, fun _ => hnm, by omega, by omega, by omega, by omega, by omega, by omega, by omega, by omega, by omega, by omega⟩ (by omega)) rfl
    · refine look_intro kmap (some (.int .i64 2)) hm (k5.weaken (by rintro _ ⟨n, rfl⟩; rfl)) rfl (by rw [kmap_get]; simp [e]) ?_
      repeat (refine ifd (fun h => ?_) (fun h => ?_) <;> try (exfalso; omega))
      refine ifnd (fun h => ret_gives (bad fun T => h (T.nm (by omega))) rfl) (fun hnm => ?_)
      refine ifnd (fun h => ret_gives (bad fun T => h (by have := T.gl0; omega)) rfl) (fun hg0 => ?_)
      refine ifnd (fun h => ret_gives (bad fun T => h (by have := T.ln2; omega)) rfl) (fun hl => ?_)
      refine ifd (fun h => by omega) (fun h => ?_)
      exact ret_gives (one ⟨htm, by omega, by omega, fun _ => hnm, by omega, by omega, by omega, by omega, by omega, by omega, by omega, by omega, by omega, by omega⟩ (by omega)) rfl
    · refine look_intro kmap none hm (k5.weaken (by rintro _ ⟨n, rfl⟩; rfl)) rfl (by rw [kmap_get, if_neg (by omega), if_neg (by omega), if_neg (by omega), if_neg (by omega), if_neg (by omega)]) ?_
      by_cases e2 : g.kind = 0 ∨ g.kind = 1
      · repeat' (refine ifd (fun h => ?_) (fun h => ?_) <;> try (exfalso; omega))
        all_goals
          refine ifnd (fun h => ret_gives (bad fun T => h (T.nm (by omega))) rfl) (fun hnm => ?_)
          refine ifnd (fun h => ret_gives (bad fun T => h (by have := T.gl0; omega)) rfl) (fun hg0 => ?_)
          refine ifnd (fun h => ret_gives (bad fun T => h (by have := T.ln0; omega)) rfl) (fun hl => ?_)
          refine ifd (fun h => by omega) (fun h => ?_)
          exact ret_gives (one ⟨htm, by omega, by omega, fun _ => hnm, by omega, by omega, by omega, by omega, by omega, by omega, by omega, by omega, by omega, by omega⟩ (by omega)) rfl
      · by_cases e9 : g.kind = 9
        · repeat (refine ifd (fun h => ?_) (fun h => ?_) <;> try (exfalso; omega))
          refine call_gives (impl_IsRelName_spec _ _) ?_
          refine ifnd (fun h => ret_gives (bad fun T => h (T.rel e9)) rfl) (fun hnm => ?_)
          refine ifnd (fun h => ret_gives (bad fun T => h (by have := T.gl0; omega)) rfl) (fun hg0 => ?_)
          refine ifd (fun h => ret_gives (bad fun T => by have := T.ln9; omega) rfl) (fun hl => ?_)
          exact ret_gives (one ⟨htm, by omega, by omega, by omega, fun _ => hnm, by omega, by omega, by omega, by omega, by omega, by omega, by omega, by omega, by omega⟩ (by omega)) rfl
        · by_cases e3 : g.kind = 7 ∨ g.kind = 8 ∨ g.kind = 10
          · have fin : ∀ k : Int, k = 1 + (Gl.cnts g.goals : Nat) → TopOk g → (∀ x ∈ g.goals, x.Sh) → k ≤ room → Value.int .i64 k = .int .i64 (g.nodes room) := fun k hk T hS hr => by
              rw [Gl.nodes_pos (.mk T hS) (by omega), hce, hk]; congr 1
            have top : g.name = ⟨#[]⟩ → g.terms.length = 0 → g.goals.length ≤ 8 → (g.kind = 10 → g.goals.length = 1) → (g.kind = 10 → ∀ b, g.goals[0]? = some b → b.kind = 9) → TopOk g := fun a b c d f =>
              ⟨htm, by omega, by omega, fun _ => a, by omega, by omega, by omega, by omega, by omega, c, by omega, d, by omega, f⟩
            repeat' (refine ifd (fun h => ?_) (fun h => ?_) <;> try (exfalso; omega))
            · refine ifnd (fun h => ret_gives (bad fun T => h (T.nm (by omega))) rfl) (fun hnm => ?_)
              refine ifnd (fun h => ret_gives (bad fun T => h (by have := T.ln0; omega)) rfl) (fun hl => ?_)
              refine ifd (fun h => ret_gives (bad fun T => by have := T.gl; omega) rfl) (fun h8 => ?_)
              have T := top hnm (by omega) (by omega) (by omega) (by omega)
              refine loop_intro (fun i : Nat => i ≤ g.goals.length ∧ (∀ x ∈ g.goals.take i, x.Sh) ∧ 1 + (Gl.cnts (g.goals.take i) : Int) ≤ room) (fun i => ⟨[(1, .val (.int .i64 room)), (6, .val (.int .i64 (1 + (Gl.cnts (g.goals.take i) : Int)))), (124, .val (.slice p.2.1 g.goals.length p.2.2)), (125, .val (.int .i64 g.goals.length)), (126, .val (.int .i64 i))], [], 1, μ, h0⟩) (fun i => g.goals.length - i)
                0 ⟨by omega, by simp, by simp [Gl.cnts]; omega⟩ (fun i => ⟨rfl, rfl⟩) ⟨⟨rfl, rfl, rfl, rfl, rfl, trivial⟩, trivial, rfl, rfl⟩ ?_
              rintro i ⟨hi, hall, hle⟩
              refine ifd (fun h => ?_) (fun h => ?_)
              · have hv_ := at_some (l := g.goals) (i := i) (by omega)
                obtain ⟨t, ht⟩ := hv_
                have hc := Gl.cnts_take ht
                have hc' := Gl.cnts_le g.goals (i + 1)
                have hv_ := Gl.elem hgs ht
                obtain ⟨ad, p3, hel, hr⟩ := hv_
                refine elem_intro hel ?_
                intro r2
                refine num64 (by omega) (by omega) ?_
                refine call_gives (ih t (mem_at ht) hr (by omega) (by omega)) ?_
                refine ifd (fun h => ret_gives (Gl.nodes_neg fun k => Gl.nodes_lt h ⟨k.1.sub t (mem_at ht), by omega⟩) rfl) (fun h => ?_)
                have hv_ := Gl.nodes_ge h
                obtain ⟨hS, hcnt, he⟩ := hv_
                refine num_eq (x := 1 + (Gl.cnts (g.goals.take (i + 1)) : Int)) (by rw [he, wrap64 (by omega) (by omega), hc]; omega) ?_
                refine num64 (by omega) (by omega) ⟨i + 1, ⟨by omega, fun x hx => ?_, by omega⟩, by omega, ⟨⟨rfl, rfl, rfl, rfl, rfl, trivial⟩, trivial, rfl, rfl⟩⟩
                rw [List.take_add_one, ht, Option.toList_some, List.mem_append, List.mem_singleton] at hx
                rcases hx with hx | rfl
                · exact hall x hx
                · exact hS
              · obtain rfl : i = g.goals.length := by omega
                rw [List.take_length] at hall hle
                exact ret_gives (fin _ (by rw [List.take_length]) T hall (by rw [List.take_length]; exact hle)) rfl
            · refine ifnd (fun h => ret_gives (bad fun T => h (T.nm (by omega))) rfl) (fun hnm => ?_)
              refine ifnd (fun h => ret_gives (bad fun T => h (by have := T.ln0; omega)) rfl) (fun hl => ?_)
              refine ifd (fun h => ret_gives (bad fun T => by have := T.gl; omega) rfl) (fun h8 => ?_)
              have T := top hnm (by omega) (by omega) (by omega) (by omega)
              refine loop_intro (fun i : Nat => i ≤ g.goals.length ∧ (∀ x ∈ g.goals.take i, x.Sh) ∧ 1 + (Gl.cnts (g.goals.take i) : Int) ≤ room) (fun i => ⟨[(1, .val (.int .i64 room)), (6, .val (.int .i64 (1 + (Gl.cnts (g.goals.take i) : Int)))), (124, .val (.slice p.2.1 g.goals.length p.2.2)), (125, .val (.int .i64 g.goals.length)), (126, .val (.int .i64 i))], [], 1, μ, h0⟩) (fun i => g.goals.length - i)
                0 ⟨by omega, by simp, by simp [Gl.cnts]; omega⟩ (fun i => ⟨rfl, rfl⟩) ⟨⟨rfl, rfl, rfl, rfl, rfl, trivial⟩, trivial, rfl, rfl⟩ ?_
              rintro i ⟨hi, hall, hle⟩
              refine ifd (fun h => ?_) (fun h => ?_)
              · have hv_ := at_some (l := g.goals) (i := i) (by omega)
                obtain ⟨t, ht⟩ := hv_
                have hc := Gl.cnts_take ht
                have hc' := Gl.cnts_le g.goals (i + 1)
                have hv_ := Gl.elem hgs ht
                obtain ⟨ad, p3, hel, hr⟩ := hv_
                refine elem_intro hel ?_
                intro r2
                refine num64 (by omega) (by omega) ?_
                refine call_gives (ih t (mem_at ht) hr (by omega) (by omega)) ?_
                refine ifd (fun h => ret_gives (Gl.nodes_neg fun k => Gl.nodes_lt h ⟨k.1.sub t (mem_at ht), by omega⟩) rfl) (fun h => ?_)
                have hv_ := Gl.nodes_ge h
                obtain ⟨hS, hcnt, he⟩ := hv_
                refine num_eq (x := 1 + (Gl.cnts (g.goals.take (i + 1)) : Int)) (by rw [he, wrap64 (by omega) (by omega), hc]; omega) ?_
                refine num64 (by omega) (by omega) ⟨i + 1, ⟨by omega, fun x hx => ?_, by omega⟩, by omega, ⟨⟨rfl, rfl, rfl, rfl, rfl, trivial⟩, trivial, rfl, rfl⟩⟩
                rw [List.take_add_one, ht, Option.toList_some, List.mem_append, List.mem_singleton] at hx
                rcases hx with hx | rfl
                · exact hall x hx
                · exact hS
              · obtain rfl : i = g.goals.length := by omega
                rw [List.take_length] at hall hle
                exact ret_gives (fin _ (by rw [List.take_length]) T hall (by rw [List.take_length]; exact hle)) rfl
            · refine ifnd (fun h => ret_gives (bad fun T => h (T.nm (by omega))) rfl) (fun hnm => ?_)
              refine ifnd (fun h => ret_gives (bad fun T => h (by have := T.ln0; omega)) rfl) (fun hl => ?_)
              refine ifnd (fun h => ret_gives (bad fun T => h (by have := T.gl1; omega)) rfl) (fun hg1 => ?_)
              have hv_ := at_some (l := g.goals) (i := 0) (by omega)
              obtain ⟨b, hb⟩ := hv_
              have hv_ := Gl.elem hgs hb
              obtain ⟨ad, p2, hel, hr⟩ := hv_
              refine elem_intro hel ?_
              refine ifnd (fun h => ret_gives (bad fun T => h (T.cl (by omega) b hb)) rfl) (fun hb9 => ?_)
              have T := top hnm (by omega) (by omega) (by omega) (fun _ x hx => by rw [hb] at hx; cases hx; exact hb9)
              refine loop_intro (fun i : Nat => i ≤ g.goals.length ∧ (∀ x ∈ g.goals.take i, x.Sh) ∧ 1 + (Gl.cnts (g.goals.take i) : Int) ≤ room) (fun i => ⟨[(1, .val (.int .i64 room)), (6, .val (.int .i64 (1 + (Gl.cnts (g.goals.take i) : Int)))), (124, .val (.slice p.2.1 g.goals.length p.2.2)), (125, .val (.int .i64 g.goals.length)), (126, .val (.int .i64 i))], [], 1, μ, h0⟩) (fun i => g.goals.length - i)
                0 ⟨by omega, by simp, by simp [Gl.cnts]; omega⟩ (fun i => ⟨rfl, rfl⟩) ⟨⟨rfl, rfl, rfl, rfl, rfl, trivial⟩, trivial, rfl, rfl⟩ ?_
              rintro i ⟨hi, hall, hle⟩
              refine ifd (fun h => ?_) (fun h => ?_)
              · have hv_ := at_some (l := g.goals) (i := i) (by omega)
                obtain ⟨t, ht⟩ := hv_
                have hc := Gl.cnts_take ht
                have hc' := Gl.cnts_le g.goals (i + 1)
                have hv_ := Gl.elem hgs ht
                obtain ⟨ad, p3, hel, hr⟩ := hv_
                refine elem_intro hel ?_
                intro r2
                refine num64 (by omega) (by omega) ?_
                refine call_gives (ih t (mem_at ht) hr (by omega) (by omega)) ?_
                refine ifd (fun h => ret_gives (Gl.nodes_neg fun k => Gl.nodes_lt h ⟨k.1.sub t (mem_at ht), by omega⟩) rfl) (fun h => ?_)
                have hv_ := Gl.nodes_ge h
                obtain ⟨hS, hcnt, he⟩ := hv_
                refine num_eq (x := 1 + (Gl.cnts (g.goals.take (i + 1)) : Int)) (by rw [he, wrap64 (by omega) (by omega), hc]; omega) ?_
                refine num64 (by omega) (by omega) ⟨i + 1, ⟨by omega, fun x hx => ?_, by omega⟩, by omega, ⟨⟨rfl, rfl, rfl, rfl, rfl, trivial⟩, trivial, rfl, rfl⟩⟩
                rw [List.take_add_one, ht, Option.toList_some, List.mem_append, List.mem_singleton] at hx
                rcases hx with hx | rfl
                · exact hall x hx
                · exact hS
              · obtain rfl : i = g.goals.length := by omega
                rw [List.take_length] at hall hle
                exact ret_gives (fin _ (by rw [List.take_length]) T hall (by rw [List.take_length]; exact hle)) rfl
          · repeat (refine ifd (fun h => ?_) (fun h => ?_) <;> try (exfalso; omega))
            exact ret_gives (bad fun T => by have := T.k0; have := T.k1; omega) rfl
end
end Go.Vx

/- Contracts: goals visited; the variables of a goal. -/
namespace Go.Vx
open Go.Proofs Classical
/-! ### Plain -/
mutual
def Gl.all : Gl → List Gl
  | .mk k s ts gs => .mk k s ts gs :: Gl.alls gs
def Gl.alls : List Gl → List Gl
  | [] => []
  | g :: r => g.all ++ Gl.alls r
end
theorem Gl.alls_map : ∀ l : List Gl, Gl.alls l = l.flatMap Gl.all
  | [] => rfl
  | g :: r => by simp [Gl.alls, Gl.alls_map r]
theorem Gl.all_eq (g : Gl) : g.all = g :: g.goals.flatMap Gl.all := by
  cases g
  rw [Gl.all, Gl.alls_map]
  rfl
theorem Gl.Sh.all : ∀ (g : Gl), g.Sh → ∀ x ∈ g.all, x.Sh :=
  Gl.ind fun g ih h x hx => by
    rw [Gl.all_eq] at hx
    rcases List.mem_cons.1 hx with rfl | hx
    · exact h
    · have hv_ := List.mem_flatMap.1 hx
      obtain ⟨y, hy, hx⟩ := hv_
      exact ih y hy (h.sub y hy) x hx
noncomputable def Gl.tvars (g : Gl) : List Int := (g.terms.map Tm.toT).flatMap T.vars
noncomputable def Gl.vars (g : Gl) : List Int := g.all.flatMap Gl.tvars
theorem foldl_snoc {α : Type} : ∀ (l s : List α), l.foldl (fun s n => s ++ [n]) s = s ++ l
  | [], s => by simp
  | a :: l, s => by rw [List.foldl_cons, foldl_snoc l]; simp
theorem foldl_app {α β : Type} (f : α → List β) : ∀ (l : List α) (s : List β), l.foldl (fun s x => s ++ f x) s = s ++ l.flatMap f
  | [], s => by simp
  | a :: l, s => by rw [List.foldl_cons, foldl_app f l]; simp
theorem toTs_tm' {xs : List T} : (xs.map T.tm).map Tm.toT = xs := by
  rw [List.map_map]
  exact (List.map_congr_left fun x _ => T.toT_tm x).trans (List.map_id _)
section
variable {μ : Mem}
theorem eachGoal_rel {S : Type} (J : S → Mem → Prop) (step : S → Gl → S) (Q : Gl → Prop) {k : FuncId} {caps : List Value}
    (hc : ∀ s h g v, Q g → RepV μ g.d v → J s h → SpecH Tryz.prog k (v :: caps) μ h fun r μ' h' => r = .tuple #[] ∧ μ' = μ ∧ J (step s g) h') :
    ∀ (g : Gl) {v : Value} (s : S) (h : Mem), RepV μ g.d v → (∀ x ∈ g.all, Q x) → J s h → SpecH Tryz.prog 292 [v, .func (.func k) #[] caps.toArray] μ h fun r μ' h' => r = .tuple #[] ∧ μ' = μ ∧ J (g.all.foldl step s) h' :=
  Gl.ind fun g ih v s h hv hq hj => by
    have hv_ := Gl.inv hv
    obtain ⟨p, rfl, hts, hgs⟩ := hv_
    have hn := maxLen_le hgs.max
    rw [Gl.all_eq] at hq ⊢
    rw [List.foldl_cons]
    refine SpecH.mk [] Tryz.func292 (by kernel_rfl) ?_
    intro r
    refine call_own (hc s h g _ (hq g (by simp)) hv hj) fun v μ' h' hle hap hR => ?_
    obtain ⟨rfl, e2, hj'⟩ := hR
    obtain rfl := e2.symm
    refine loop_intro (fun p : Nat × Mem => p.1 ≤ g.goals.length ∧ J (((g.goals.take p.1).flatMap Gl.all).foldl step (step s g)) p.2)
      (fun (i, h) => ⟨[(1, .val (.func (.func k) #[] caps.toArray)), (10, .val (.slice p.2.1 g.goals.length p.2.2)), (11, .val (.int .i64 g.goals.length)), (12, .val (.int .i64 i))], [], 1, μ, h⟩) (fun p => g.goals.length - p.1)
      (0, h') ⟨by simp, by simpa using hj'⟩ (fun (_, _) => ⟨rfl, rfl⟩) ⟨⟨rfl, rfl, rfl, rfl, trivial⟩, trivial, rfl, rfl⟩ ?_
    rintro ⟨i, h1⟩ ⟨hi, hj1⟩
    dsimp only at hi hj1
    refine ifd (fun hlt => ?_) (fun hlt => ?_)
    · have hv_ := at_some (l := g.goals) (i := i) (by omega)
      obtain ⟨t, ht⟩ := hv_
      have hv_ := Gl.elem hgs ht
      obtain ⟨ad, p3, hel, hr⟩ := hv_
      refine elem_intro hel ?_
      intro r4
      refine call_own (ih t (mem_at ht) _ h1 hr (fun x hx => hq x (List.mem_cons_of_mem _ (List.mem_flatMap.2 ⟨t, mem_at ht, hx⟩))) hj1) fun v μ' h' hle hap hR => ?_
      obtain ⟨rfl, e2, hj2⟩ := hR
      obtain rfl := e2.symm
      refine num64 (by omega) (by omega) ⟨(i + 1, h'), ⟨by dsimp only; omega, ?_⟩, by dsimp only; omega, ⟨⟨rfl, rfl, rfl, rfl, trivial⟩, trivial, rfl, rfl⟩⟩
      dsimp only
      rw [List.take_add_one, ht, Option.toList_some, List.flatMap_append, List.foldl_append]
      simpa using hj2
    · obtain rfl : i = g.goals.length := by omega
      rw [List.take_length] at hj1
      exact ret_plain ⟨rfl, rfl, hj1⟩
/-- The map of variables: which it holds. -/
def KeysInv (rm : Nat) (s : List Int) (h : Mem) : Prop := ∃ r l, h rm = some (.cells #[.map (some r)] 299 (0, 0)) ∧ h r = some (mapO l) ∧ MapOk IntKey l ∧ ∀ n, (mget l (.int .i64 n)).isSome ↔ n ∈ s
theorem goalVars11_spec {rm : Nat} {s : List Int} {h : Mem} {n : Int} (H : KeysInv rm s h) : SpecH Tryz.prog 327 [.int .i64 n, .pointer (some ⟨rm, 0, none⟩)] μ h fun r μ' h' => r = .tuple #[] ∧ μ' = μ ∧ KeysInv rm (s ++ [n]) h' := by
  obtain ⟨r, l, h1, h2, hk, hg⟩ := H
  have e1 : rm ≠ r := ne_of_obj h1 h2 (by simp [mapO])
  refine SpecH.mk [] Tryz.func327 (by kernel_rfl) ?_
  refine own_intro [.map (some r)] rfl (box_at h1) ?_
  refine upd_intro l h2 (hk.weaken (by rintro _ ⟨n, rfl⟩; rfl)) rfl ?_
  refine ret_plain ⟨rfl, rfl, r, _, ?_, Mem.set_at _ _ _, hk.int _, fun m => ?_⟩
  · dsimp only; rw [Mem.set_ne e1]; exact h1
  · rw [mget_int, List.mem_append, List.mem_singleton]
    by_cases e : m = n
    · simp [e]
    · rw [if_neg e, hg]; simp [e]
theorem goalVars1_spec {rm : Nat} {s : List Int} {h : Mem} {g : Gl} {v : Value} (hok : ∀ t ∈ g.terms, t.Ok) (hv : RepV μ g.d v) (H : KeysInv rm s h) : SpecH Tryz.prog 326 [v, .pointer (some ⟨rm, 0, none⟩)] μ h fun r μ' h' => r = .tuple #[] ∧ μ' = μ ∧ KeysInv rm (s ++ g.tvars) h' := by
  have hv_ := Gl.inv hv
  obtain ⟨p, rfl, hts, hgs⟩ := hv_
  have hv_ := lift_ok hok
  obtain ⟨xs, hxs, hxo⟩ := hv_
  have htv : g.tvars = xs.flatMap T.vars := by
    rw [Gl.tvars, hxs, List.map_map]
    congr 1
    exact (List.map_congr_left fun x _ => T.toT_tm x).trans (List.map_id _)
  rw [htv]
  rw [hxs, List.length_map] at hts ⊢
  have hn := maxLen_le hts.max
  refine SpecH.mk [] Tryz.func326 (by kernel_rfl) ?_
  intro r
  refine loop_intro (fun p : Nat × Mem => p.1 ≤ xs.length ∧ KeysInv rm (s ++ (xs.take p.1).flatMap T.vars) p.2)
    (fun (i, h) => ⟨[(1, .val (.pointer (some ⟨rm, 0, none⟩))), (6, .val (.slice p.1.1 xs.length p.1.2)), (7, .val (.int .i64 xs.length)), (8, .val (.int .i64 i))], [], 1, μ, h⟩) (fun p => xs.length - p.1)
    (0, h) ⟨by simp, by simpa using H⟩ (fun (_, _) => ⟨rfl, rfl⟩) ⟨⟨rfl, rfl, rfl, rfl, trivial⟩, trivial, rfl, rfl⟩ ?_
  rintro ⟨i, h1⟩ ⟨hi, hj1⟩
  dsimp only at hi hj1
  refine ifd (fun hlt => ?_) (fun hlt => ?_)
  · have hv_ := at_some (l := xs) (i := i) (by omega)
    obtain ⟨x, hx'⟩ := hv_
    have hv_ := Tm.elem (i := i) (t := x.tm) hts (by simp [hx'])
    obtain ⟨ad, p3, hel, hto⟩ := hv_
    refine elem_intro hel ?_
    intro r4
    refine call_own (eachVar_rel (KeysInv rm) (fun s n => s ++ [n]) (fun _ _ => True) (fun s h n _ hj => goalVars11_spec hj) x _ h1 hto (fun _ _ _ _ => trivial) hj1) fun v μ' h' hle hap hR => ?_
    obtain ⟨rfl, e2, hj2⟩ := hR
    obtain rfl := e2.symm
    rw [foldl_snoc] at hj2
    refine num64 (by omega) (by omega) ⟨(i + 1, h'), ⟨by dsimp only; omega, ?_⟩, by dsimp only; omega, ⟨⟨rfl, rfl, rfl, rfl, trivial⟩, trivial, rfl, rfl⟩⟩
    dsimp only
    rw [List.take_add_one, hx', Option.toList_some, List.flatMap_append]
    simpa using hj2
  · obtain rfl : i = xs.length := by omega
    rw [List.take_length] at hj1
    exact ret_plain ⟨rfl, rfl, hj1⟩
theorem Gl.vars_range {g : Gl} (h : g.Sh) : ∀ n ∈ g.vars, 0 ≤ n ∧ n ≤ 100000 := fun n hn => by
  have hv_ := List.mem_flatMap.1 hn
  obtain ⟨x, hx, hn⟩ := hv_
  have hv_ := lift_ok (h.all g x hx).top.tm
  obtain ⟨xs, hxs, hxo⟩ := hv_
  rw [Gl.tvars, hxs, toTs_tm'] at hn
  have hv_ := List.mem_flatMap.1 hn
  obtain ⟨t, ht, hn⟩ := hv_
  exact T.vars_range (hxo t ht).1 n hn
theorem goalVars_spec {g : Gl} {v : Value} (hS : g.Sh) (hv : RepV μ g.d v) : Spec Tryz.prog 291 [v] μ fun v μ' => ∃ xs : List Int, (∀ n, n ∈ xs ↔ n ∈ g.vars) ∧ xs.Pairwise (· < ·) ∧ Fresh μ μ' (.sl 1 (xs.map D.i)) v := by
  have hv_ := Gl.invV hv
  obtain ⟨p, rfl⟩ := hv_
  refine Spec.mkO [3, 4] Tryz.func291 (by kernel_rfl) ?_
  intro r
  intro rM hmM hoM r3 hm3 ho3
  refine sto_intro [.map none] 299 (Mem.set_at _ _ _) rfl (Nat.le_refl _) ?_
  dsimp only at hmM hoM hm3 ho3
  have n1 : rM ≠ r3 := fun e => by subst e; simp [Mem.set_get] at ho3
  generalize hh : Mem.set (Mem.set _ r3 _) r3 _ = h0
  have H0 : KeysInv r3 [] h0 := by
    subst hh
    refine ⟨rM, [], ?_, ?_, MapOk.nil, fun n => by simp [mget]⟩
    · rw [Mem.set_at]; rfl
    · dsimp only; rw [Mem.set_ne n1, Mem.set_ne n1, Mem.set_at]
  refine call_own (eachGoal_rel (KeysInv r3) (fun s g => s ++ g.tvars) (fun g => ∀ t ∈ g.terms, t.Ok) (fun s h g v hq hv hj => goalVars1_spec hq hv hj) g [] h0 hv (fun x hx => (Gl.Sh.all g hS x hx).top.tm) H0) fun v μ' h' hle hap hR => ?_
  obtain ⟨rfl, e2, hj⟩ := hR
  obtain rfl := e2.symm
  rw [foldl_app] at hj
  obtain ⟨r, l, h1, h2, hk, hg⟩ := hj
  have hlen : l.length ≤ 1000000 := by
    have hv_ := keys_ints hk
    obtain ⟨ks, hks, hnd⟩ := hv_
    have := nodup_range (N := 100001) hnd fun n hn => by
      have h3 := (hg n).1 ((mget_keys hks n).2 hn)
      have := Gl.vars_range hS n (by simpa [Gl.vars] using h3)
      omega
    have h4 := congrArg List.length hks
    simp only [ints, List.length_map] at h4
    omega
  refine own_intro [.map (some r)] rfl (box_at h1) ?_
  refine call_own (sortedInts_spec h2 hk hlen) fun v μ2 h2' hle2 hap2 hR2 => ?_
  obtain ⟨rfl, xs, g1, g2, g3⟩ := hR2
  exact ret_plain ⟨xs, fun n => (g1 n).trans ((hg n).trans (by simp [Gl.vars])), g2, g3⟩
theorem varsBelow_spec {g : Gl} {v : Value} {n : Int} (hS : g.Sh) (hv : RepV μ g.d v) : Spec Tryz.prog 211 [v, .int .i64 n] μ fun r _ => r = .bool (decide (∀ m ∈ g.vars, m < n)) := by
  have hv_ := Gl.invV hv
  obtain ⟨p, rfl⟩ := hv_
  refine Spec.mk Tryz.func211 (by kernel_rfl) ?_
  intro r
  refine call_plain (goalVars_spec hS hv) fun v1 μ1 hle1 hR => ?_
  obtain ⟨xs, g1, g2, g3⟩ := hR
  have hv_ := Rep.sl g3.rep
  obtain ⟨b, c, rfl, hsl⟩ := hv_
  rw [List.length_map] at hsl ⊢
  have hn := maxLen_le hsl.max
  refine loop_intro (fun i : Nat => i ≤ xs.length ∧ ∀ m ∈ xs.take i, m < n) (fun i => ⟨[(1, .val (.int .i64 n)), (8, .val (.slice b xs.length c)), (9, .val (.int .i64 xs.length)), (10, .val (.int .i64 i))], [], 1, μ1, Mem.nil⟩) (fun i => xs.length - i)
    0 ⟨by simp, by simp⟩ (fun _ => ⟨rfl, rfl⟩) ⟨⟨rfl, rfl, rfl, rfl, trivial⟩, trivial, rfl, rfl⟩ ?_
  rintro i ⟨hi, hall⟩
  refine ifd (fun hlt => ?_) (fun hlt => ?_)
  · have hv_ := at_some (l := xs) (i := i) (by omega)
    obtain ⟨x, hx⟩ := hv_
    have hv_ := Ints.elem hsl hx
    obtain ⟨ad, hel⟩ := hv_
    refine elem_intro hel ?_
    refine ifd (fun hge => ret_plain (isF fun hh => ?_)) (fun hge => ?_)
    · have := hh x ((g1 x).1 (mem_at hx)); omega
    refine num64 (by omega) (by omega) ⟨i + 1, ⟨by omega, fun y hy => ?_⟩, by omega, ⟨⟨rfl, rfl, rfl, rfl, trivial⟩, trivial, rfl, rfl⟩⟩
    rw [List.take_add_one, hx, Option.toList_some, List.mem_append, List.mem_singleton] at hy
    rcases hy with hy | rfl
    · exact hall y hy
    · omega
  · obtain rfl : i = xs.length := by omega
    rw [List.take_length] at hall
    exact ret_plain (isT fun m hm => hall m ((g1 m).2 hm))
end
end Go.Vx

/- Contracts: the laws' own functions on values of the type Rel: sizes, copies, equality, marks; what an argument reads. (By gen_types.py.) -/
namespace Go.Vx
open Go.Proofs Classical
structure Rl where
  name : ByteArray
  arity : Int
  locals : Int
  body : Gl
def Rl.d (x : Rl) : D := .st [.s x.name, .i x.arity, .i x.locals, x.body.d]
theorem Rl.d_eq (x : Rl) : x.d = .st [.s x.name, .i x.arity, .i x.locals, x.body.d] := rfl
theorem Rl.d_n (x : Rl) : x.d.n = 7 := by
  rw [Rl.d_eq]
  simp only [D.n, D.ns, Gl.d_n]
abbrev Rl.P := Gl.P
/-- The cells of a value. -/
def Rl.cs (x : Rl) (p : Rl.P) : List Value := [.string x.name, .int .i64 x.arity, .int .i64 x.locals, .int .i64 x.body.kind, .string x.body.name, .slice p.1.1 x.body.terms.length p.1.2, .slice p.2.1 x.body.goals.length p.2.2]
section
variable {μ : Mem}
def Rl.At (μ : Mem) (x : Rl) (p : Rl.P) : Prop := RepV μ x.body.d (.agg (x.body.cs p).toArray)
theorem Rl.invA {x : Rl} {cs : List Value} (h : Rep μ x.d cs) : ∃ p : Rl.P, cs = x.cs p ∧ Rl.At μ x p := by
  rw [Rl.d_eq] at h
  obtain ⟨a0, t0, rfl, h0, h⟩ := h
  have h0 : a0 = [.string x.name] := h0
  subst h0
  obtain ⟨a1, t1, rfl, h1, h⟩ := h
  have h1 : a1 = [.int .i64 x.arity] := h1
  subst h1
  obtain ⟨a2, t2, rfl, h2, h⟩ := h
  have h2 : a2 = [.int .i64 x.locals] := h2
  subst h2
  obtain ⟨a3, t3, rfl, h3, h⟩ := h
  have hv_ := Gl.invR h3
  obtain ⟨p3, rfl, r3⟩ := hv_
  obtain rfl : t3 = [] := h
  exact ⟨p3, by simp [Rl.cs, Gl.cs], r3⟩
theorem Rl.rep {x : Rl} {cs : List Value} (h : Rep μ x.d cs) : RepV μ x.d (.agg cs.toArray) := by
  rw [Rl.d_eq] at h ⊢; exact ⟨cs, rfl, h⟩
theorem Rl.invR {x : Rl} {cs : List Value} (h : Rep μ x.d cs) : ∃ p : Rl.P, cs = x.cs p ∧ RepV μ x.d (.agg (x.cs p).toArray) := by
  have hv_ := Rl.invA h
  obtain ⟨p, e, _⟩ := hv_
  subst e
  exact ⟨p, rfl, Rl.rep h⟩
theorem Rl.inv {x : Rl} {v : Value} (h : RepV μ x.d v) : ∃ p : Rl.P, v = .agg #[.string x.name, .int .i64 x.arity, .int .i64 x.locals, .int .i64 x.body.kind, .string x.body.name, .slice p.1.1 x.body.terms.length p.1.2, .slice p.2.1 x.body.goals.length p.2.2] ∧ Rl.At μ x p := by
  have h2 : ∃ cs, v = .agg (List.toArray cs) ∧ Rep μ x.d cs := by rw [Rl.d_eq] at h ⊢; exact h
  obtain ⟨cs, rfl, h3⟩ := h2
  have hv_ := Rl.invA h3
  obtain ⟨p, rfl, hA⟩ := hv_
  exact ⟨p, rfl, hA⟩
theorem Rl.invV {x : Rl} {v : Value} (h : RepV μ x.d v) : ∃ p : Rl.P, v = .agg #[.string x.name, .int .i64 x.arity, .int .i64 x.locals, .int .i64 x.body.kind, .string x.body.name, .slice p.1.1 x.body.terms.length p.1.2, .slice p.2.1 x.body.goals.length p.2.2] := by
  have hv_ := Rl.inv h
  obtain ⟨p, h, _⟩ := hv_
  exact ⟨p, h⟩
theorem Rl.elemA {l : List Rl} {base : Option Addr} {n : Nat} (h : Sl μ 7 base n (l.map Rl.d)) {i : Nat} {x : Rl} (hx : l[i]? = some x) : ∃ ad, ∃ p : Rl.P, ElemAt μ base n 7 i ad (x.cs p) ∧ RepV μ x.d (.agg (x.cs p).toArray) ∧ Rl.At μ x p := by
  have hv_ := h.get i x.d (by simp [hx])
  obtain ⟨ad, cs, h1, h2⟩ := hv_
  have hv_ := Rl.invA h2
  obtain ⟨p, rfl, hA⟩ := hv_
  exact ⟨ad, p, h1, Rl.rep h2, hA⟩
theorem Rl.elem {l : List Rl} {base : Option Addr} {n : Nat} (h : Sl μ 7 base n (l.map Rl.d)) {i : Nat} {x : Rl} (hx : l[i]? = some x) : ∃ ad, ∃ p : Rl.P, ElemAt μ base n 7 i ad (x.cs p) ∧ RepV μ x.d (.agg (x.cs p).toArray) := by
  have hv_ := Rl.elemA h hx
  obtain ⟨ad, p, h1, h2, _⟩ := hv_
  exact ⟨ad, p, h1, h2⟩
theorem Rl.sz_eq (x : Rl) : x.d.sz = x.name.size + x.body.d.sz := by
  rw [Rl.d_eq]
  simp [D.sz, D.szs]
theorem szRel_spec (x : Rl) {v : Value} {left : Int} (hv : RepV μ x.d v) (hl : 0 ≤ left) (hl2 : left ≤ 1048576) (hw : x.d.wd) : Gives Tryz.prog 199 [v, .int .i64 left] μ (.int .i64 (szR left x.d.sz)) := by
  have hv_ := Rl.inv hv
  obtain ⟨p, rfl, hA⟩ := hv_
  have hsz := Rl.sz_eq x
  rw [Rl.d_eq] at hw
  have m0 := maxLen_le hw.1
  refine Spec.mk Tryz.func199 (by kernel_rfl) ?_
  intro r
  refine num64 (by omega) (by omega) (ifd (fun h => ret_gives (by rw [szR_neg (by omega)]) rfl) (fun h => ?_))
  refine call_gives (szGoal_spec x.body hA (by omega) (by omega) hw.2.2.2.1) ?_
  refine ifd (fun h => ret_gives (by have := szR_lt h; rw [szR_neg (by omega)]) rfl) (fun h => ?_)
  have q3 := szR_ge h
  rw [szR_pos q3] at h ⊢
  refine ret_gives ?_ rfl
  rw [szR_pos (by omega)]
  first | rfl | (congr 1; omega)
theorem szRelS_of {l : List Rl} (he : ∀ t ∈ l, ∀ {v : Value} {left : Int}, RepV μ t.d v → 0 ≤ left → left ≤ 1048576 → t.d.wd → Gives Tryz.prog 199 [v, .int .i64 left] μ (.int .i64 (szR left t.d.sz)))
    {base : Option Addr} {cap : Nat} {left : Int} (hsl : Sl μ 7 base l.length (l.map Rl.d)) (hl : 0 ≤ left) (hl2 : left ≤ 1048576) (hw : D.wds (l.map Rl.d)) :
    Gives Tryz.prog 110 [.slice base l.length cap, .int .i64 left] μ (.int .i64 (szR left (l.length + D.szs (l.map Rl.d)))) := by
  have hn := maxLen_le hsl.max
  refine Spec.mk Tryz.func110 (by kernel_rfl) ?_
  refine num64 (by omega) (by omega) (ifd (fun h => ret_gives ?_ rfl) (fun h => ?_))
  · rw [szR_neg (by omega)]
  refine loop_intro (fun i : Nat => i ≤ l.length ∧ (D.szs ((l.map Rl.d).take i) : Int) ≤ left - l.length) (fun i => ⟨[(0, .val (.slice base l.length cap)), (1, .val (.int .i64 (left - l.length - D.szs ((l.map Rl.d).take i)))), (5, .val (.int .i64 i))], [], 0, μ, Mem.nil⟩) (fun i => l.length - i)
    0 ⟨by omega, by simp [D.szs]; omega⟩ (fun i => ⟨rfl, rfl⟩) ⟨⟨rfl, by show some (SV.val (.int .i64 _)) = some (SV.val (.int .i64 _)); congr 3; simp [D.szs], rfl, trivial⟩, trivial, rfl, rfl⟩ ?_
  rintro i ⟨hi, hz⟩
  refine ifd (fun h => ?_) (fun h => ?_)
  · obtain ⟨t, ht⟩ := at_some (l := l) (i := i) (by omega)
    have hx := at_map (f := Rl.d) ht
    have hs := D.szs_take hx
    have hs' := D.szs_le (l.map Rl.d) (i + 1)
    obtain ⟨ad, p, hel, hr⟩ := Rl.elem hsl ht
    refine elem_intro hel (call_gives (he t (mem_at ht) hr (by omega) (by omega) (D.wds_mem hw _ (mem_at hx))) ?_)
    refine ifd (fun h => ret_gives ?_ rfl) (fun h => ?_)
    · have := szR_lt h
      rw [szR_neg (by omega)]
    · have := szR_ge h
      refine num64 (by omega) (by omega) ⟨i + 1, ⟨by omega, by omega⟩, by omega, ⟨⟨rfl, ?_, rfl, trivial⟩, trivial, rfl, rfl⟩⟩
      rw [szR_pos this, hs]
      show some (SV.val (.int .i64 _)) = some (SV.val (.int .i64 _))
      congr 3; omega
  · obtain rfl : i = l.length := by omega
    rw [List.take_of_length_le (by simp)] at hz ⊢
    refine ret_gives ?_ rfl
    rw [szR_pos (by omega)]; congr 1; omega
theorem szRelS_spec {l : List Rl} {base : Option Addr} {cap : Nat} {left : Int} (hsl : Sl μ 7 base l.length (l.map Rl.d)) (hl : 0 ≤ left) (hl2 : left ≤ 1048576) (hw : D.wds (l.map Rl.d)) :
    Gives Tryz.prog 110 [.slice base l.length cap, .int .i64 left] μ (.int .i64 (szR left (l.length + D.szs (l.map Rl.d)))) := szRelS_of (fun t _ _ _ => szRel_spec t) hsl hl hl2 hw
set_option maxRecDepth 4000 in
theorem toRel_spec (x : Rl) {μ : Mem} {v : Value} (hv : RepV μ x.d v) (hb : x.d.sz ≤ 1048576) : Spec Tryz.prog 205 [v] μ fun v μ' => Fresh μ μ' x.d v := by
  have hv_ := Rl.inv hv
  obtain ⟨p, rfl, hA⟩ := hv_
  have hsz := Rl.sz_eq x
  have A0 := hA
  refine Spec.mk Tryz.func205 (by kernel_rfl) ?_
  intro r1 r2 r3
  refine call_plain (toGoal_spec x.body A0 (by omega)) fun u0 μ0 hle0 hf0 => ?_
  have hv_ := Gl.invV hf0.rep
  obtain ⟨pp0, rfl⟩ := hv_
  rw [Rl.d_eq]
  exact ret_plain (FreshS.st (FreshS.str (FreshS.int (FreshS.int (FreshS.cons hf0 hle0 (Mem.Le.refl _) (FreshS.nil))))))
theorem toRelS_of {l : List Rl} (he : ∀ t ∈ l, ∀ {μ : Mem} {v : Value}, RepV μ t.d v → t.d.sz ≤ 1048576 → Spec Tryz.prog 205 [v] μ fun v μ' => Fresh μ μ' t.d v)
    {base : Option Addr} {cap : Nat} (hsl : Sl μ 7 base l.length (l.map Rl.d)) (hb : l.length + D.szs (l.map Rl.d) ≤ 1048576) :
    Spec Tryz.prog 118 [.slice base l.length cap] μ fun v μ' => Fresh μ μ' (.sl 7 (l.map Rl.d)) v := by
  refine Spec.mk Tryz.func118 (by kernel_rfl) ?_
  refine make_intro l.length rfl rfl (by simp only; omega) (Nat.le_trans (m := 1048576) (by omega) (by decide)) ?_
  intro r
  refine loop_intro (fun p : Nat × List Value × Mem => μ.Le p.2.2 ∧ ∃ g, Filled 7 (.agg #[.string ⟨#[]⟩, .int .i64 0, .int .i64 0, .int .i64 0, .string ⟨#[]⟩, .slice none 0 0, .slice none 0 0]) μ p.2.2 (l.map Rl.d) p.1 p.2.1 g)
    (fun (i, xs, μ') => ⟨[(0, .val (.slice base l.length cap)), (3, .row 0 (some r) l.length l.length), (4, .val (.int .i64 i))], [(0, some (.row (some r) l.length 143 7 xs))], 1, μ', Mem.nil⟩) (fun p => l.length - p.1)
    (0, List.replicate l.length (.agg #[.string ⟨#[]⟩, .int .i64 0, .int .i64 0, .int .i64 0, .string ⟨#[]⟩, .slice none 0 0, .slice none 0 0]), μ) ⟨Mem.Le.refl μ, _, Filled.start (by simp)⟩ (fun (_, _, _) => ⟨rfl, rfl⟩) ⟨⟨rfl, rfl, rfl, trivial⟩, ⟨rfl, trivial⟩, rfl, rfl⟩ ?_
  rintro ⟨i, xs, μ'⟩ ⟨hle, g, hf⟩
  dsimp only at hle hf
  have hi := hf.le
  have hlen := hf.len
  rw [List.length_map] at hi hlen
  refine ifd (fun h => ?_) (fun h => ?_)
  · obtain ⟨t, ht⟩ := at_some (l := l) (i := i) (by omega)
    have hx := at_map (f := Rl.d) ht
    have hs := D.szs_mem hx
    obtain ⟨ad, p, hel, hr⟩ := Rl.elem (hsl.mono hle) ht
    refine elem_intro hel (call_plain (he t (mem_at ht) hr (by omega)) fun v μ'' hle2 hfr => ?_)
    obtain ⟨g', hf'⟩ := hf.step hx (Rl.d_n t) hfr hle2
    obtain ⟨p2, rfl⟩ := Rl.invV hfr.rep
    refine rel_intro i rfl (by omega) ?_
    refine get_intro _ (hf.rest i (by omega) (by simpa using h)) ?_
    refine num64 (by omega) (by omega) ⟨(i + 1, _, μ''), ⟨hle.trans hle2, g', hf'⟩, by dsimp only; omega, ⟨⟨rfl, rfl, rfl, trivial⟩, ⟨rfl, trivial⟩, rfl, rfl⟩⟩
  · obtain rfl : i = l.length := by omega
    refine ret_frz [0] fun μ2 hle2 hno hrow => .inl ?_
    have := Fresh.ofRow (hf.all (by simp)) hf.sub hf.new hle hle2 hno hrow (Nat.le_trans (m := 1048576) (by omega) (by decide))
    rw [hlen] at this
    exact this
theorem toRelS_spec {l : List Rl} {base : Option Addr} {cap : Nat} (hsl : Sl μ 7 base l.length (l.map Rl.d)) (hb : l.length + D.szs (l.map Rl.d) ≤ 1048576) :
    Spec Tryz.prog 118 [.slice base l.length cap] μ fun v μ' => Fresh μ μ' (.sl 7 (l.map Rl.d)) v := toRelS_of (fun t _ _ _ => toRel_spec t) hsl hb
theorem eqRel_spec (x : Rl) {v v' : Value} (hv : RepV μ x.d v) (hv' : RepV μ x.d v') : Gives Tryz.prog 213 [v, v'] μ (.bool true) := by
  have hv_ := Rl.inv hv
  obtain ⟨p, rfl, hA⟩ := hv_
  have hv_ := Rl.inv hv'
  obtain ⟨p', rfl, hB⟩ := hv_
  have A0 := hA
  have B0 := hB
  refine Spec.mk Tryz.func213 (by kernel_rfl) ?_
  intro r1 r2
  refine ifnd (fun h => absurd rfl h) (fun _ => ?_)
  refine ifnd (fun h => absurd rfl h) (fun _ => ?_)
  refine ifnd (fun h => absurd rfl h) (fun _ => ?_)
  refine call_gives (eqGoal_spec x.body A0 B0) ?_
  refine if_intro (fun h => nomatch h) (fun _ => ?_)
  exact ret_gives rfl rfl
theorem eqRelS_of {l : List Rl} (he : ∀ t ∈ l, ∀ {v v' : Value}, RepV μ t.d v → RepV μ t.d v' → Gives Tryz.prog 213 [v, v'] μ (.bool true))
    {base base' : Option Addr} {cap cap' : Nat} (hl : Sl μ 7 base l.length (l.map Rl.d)) (hl' : Sl μ 7 base' l.length (l.map Rl.d)) :
    Gives Tryz.prog 128 [.slice base l.length cap, .slice base' l.length cap'] μ (.bool true) := by
  have hn := maxLen_le hl.max
  refine Spec.mk Tryz.func128 (by kernel_rfl) ?_
  refine ifnd (fun h => absurd rfl h) (fun _ => ?_)
  refine loop_intro (fun i : Nat => i ≤ l.length) (fun i => ⟨[(0, .val (.slice base l.length cap)), (1, .val (.slice base' l.length cap')), (5, .val (.int .i64 i))], [], 0, μ, Mem.nil⟩) (fun i => l.length - i)
    0 (by omega) (fun i => ⟨rfl, rfl⟩) ⟨⟨rfl, rfl, rfl, trivial⟩, trivial, rfl, rfl⟩ ?_
  intro i hi
  refine ifd (fun h => ?_) (fun h => ?_)
  · obtain ⟨t, ht⟩ := at_some (l := l) (i := i) (by omega)
    obtain ⟨ad, p, hel, hr⟩ := Rl.elem hl ht
    obtain ⟨ad', p', hel', hr'⟩ := Rl.elem hl' ht
    refine elem_intro hel (elem_intro hel' (call_gives (he t (mem_at ht) hr hr') ?_))
    refine if_intro (fun h => nomatch h) (fun _ => ?_)
    exact num64 (by omega) (by omega) ⟨i + 1, by omega, by omega, ⟨⟨rfl, rfl, rfl, trivial⟩, trivial, rfl, rfl⟩⟩
  · exact ret_gives rfl rfl
theorem eqRelS_spec {l : List Rl} {base base' : Option Addr} {cap cap' : Nat} (hl : Sl μ 7 base l.length (l.map Rl.d)) (hl' : Sl μ 7 base' l.length (l.map Rl.d)) :
    Gives Tryz.prog 128 [.slice base l.length cap, .slice base' l.length cap'] μ (.bool true) := eqRelS_of (fun t _ _ _ => eqRel_spec t) hl hl'
theorem read_Rel : Reads Tryz.prog 217 fun d => ∃ x : Rl, d = x.d ∧ x.d.wd
  | 0 => ReadsTo.zero _
  | n + 1 => (reads_struct ti217 rfl (FieldsTo.cons ti9 (reads_str und_string n) (FieldsTo.cons ti3 (reads_int und_int n) (FieldsTo.cons ti3 (reads_int und_int n) (FieldsTo.cons ti51 (read_Goal n) FieldsTo.nil))))).weaken fun d h => by
    obtain ⟨ds, rfl, h⟩ := h
    obtain ⟨_, _, rfl, ⟨x0, rfl, w0⟩, q0⟩ := h.cons
    obtain ⟨_, _, rfl, ⟨x1, rfl, w1⟩, q1⟩ := q0.cons
    obtain ⟨_, _, rfl, ⟨x2, rfl, w2⟩, q2⟩ := q1.cons
    obtain ⟨_, _, rfl, ⟨x3, rfl, w3⟩, q3⟩ := q2.cons
    obtain rfl := q3.nil
    refine ⟨.mk x0 x1 x2 x3, (Rl.d_eq (.mk x0 x1 x2 x3)).symm, ?_⟩
    rw [Rl.d_eq]
    exact ⟨w0, w1, w2, w3, trivial⟩
theorem read_RelS : Reads Tryz.prog 61 fun d => ∃ l : List Rl, d = .sl 7 (l.map Rl.d) ∧ D.wds (l.map Rl.d) := fun n =>
  (reads_sl ti61.kind (cellsOf_tt ti217) (fun d h => by obtain ⟨a, rfl, _⟩ := h; exact Rl.d_n a) read_Rel n).weaken fun d h => by
    obtain ⟨xs, rfl, hx⟩ := h
    obtain ⟨l, rfl⟩ := lift_list (f := Rl.d) fun x h => by obtain ⟨t, h, _⟩ := hx x h; exact ⟨t, h⟩
    exact ⟨l, rfl, D.wds_of fun x hm => by obtain ⟨t, rfl, h⟩ := hx x hm; exact h⟩
end
end Go.Vx

/- Contracts: the laws' own functions on values of the type Program: sizes, copies, equality, marks; what an argument reads. (By gen_types.py.) -/
namespace Go.Vx
open Go.Proofs Classical
structure Pg where
  rels : List Rl
def Pg.d (x : Pg) : D := .st [.sl 7 (x.rels.map Rl.d)]
theorem Pg.d_eq (x : Pg) : x.d = .st [.sl 7 (x.rels.map Rl.d)] := rfl
theorem Pg.d_n (x : Pg) : x.d.n = 1 := by
  rw [Pg.d_eq]
  simp only [D.n, D.ns]
abbrev Pg.P := (Option Addr × Nat)
/-- The cells of a value. -/
def Pg.cs (x : Pg) (p : Pg.P) : List Value := [.slice p.1 x.rels.length p.2]
section
variable {μ : Mem}
def Pg.At (μ : Mem) (x : Pg) (p : Pg.P) : Prop := Sl μ 7 p.1 x.rels.length (x.rels.map Rl.d)
theorem Pg.invA {x : Pg} {cs : List Value} (h : Rep μ x.d cs) : ∃ p : Pg.P, cs = x.cs p ∧ Pg.At μ x p := by
  rw [Pg.d_eq] at h
  obtain ⟨a0, t0, rfl, h0, h⟩ := h
  have hv_ := one_of (Rep.len _ _ h0)
  obtain ⟨v0, rfl⟩ := hv_
  have hv_ := Rep.sl h0
  obtain ⟨b0, c0, rfl, s0⟩ := hv_
  rw [List.length_map] at s0
  obtain rfl : t0 = [] := h
  exact ⟨(b0, c0), by simp [Pg.cs], s0⟩
theorem Pg.rep {x : Pg} {cs : List Value} (h : Rep μ x.d cs) : RepV μ x.d (.agg cs.toArray) := by
  rw [Pg.d_eq] at h ⊢; exact ⟨cs, rfl, h⟩
theorem Pg.invR {x : Pg} {cs : List Value} (h : Rep μ x.d cs) : ∃ p : Pg.P, cs = x.cs p ∧ RepV μ x.d (.agg (x.cs p).toArray) := by
  have hv_ := Pg.invA h
  obtain ⟨p, e, _⟩ := hv_
  subst e
  exact ⟨p, rfl, Pg.rep h⟩
theorem Pg.inv {x : Pg} {v : Value} (h : RepV μ x.d v) : ∃ p : Pg.P, v = .agg #[.slice p.1 x.rels.length p.2] ∧ Pg.At μ x p := by
  have h2 : ∃ cs, v = .agg (List.toArray cs) ∧ Rep μ x.d cs := by rw [Pg.d_eq] at h ⊢; exact h
  obtain ⟨cs, rfl, h3⟩ := h2
  have hv_ := Pg.invA h3
  obtain ⟨p, rfl, hA⟩ := hv_
  exact ⟨p, rfl, hA⟩
theorem Pg.invV {x : Pg} {v : Value} (h : RepV μ x.d v) : ∃ p : Pg.P, v = .agg #[.slice p.1 x.rels.length p.2] := by
  have hv_ := Pg.inv h
  obtain ⟨p, h, _⟩ := hv_
  exact ⟨p, h⟩
theorem Pg.elemA {l : List Pg} {base : Option Addr} {n : Nat} (h : Sl μ 1 base n (l.map Pg.d)) {i : Nat} {x : Pg} (hx : l[i]? = some x) : ∃ ad, ∃ p : Pg.P, ElemAt μ base n 1 i ad (x.cs p) ∧ RepV μ x.d (.agg (x.cs p).toArray) ∧ Pg.At μ x p := by
  have hv_ := h.get i x.d (by simp [hx])
  obtain ⟨ad, cs, h1, h2⟩ := hv_
  have hv_ := Pg.invA h2
  obtain ⟨p, rfl, hA⟩ := hv_
  exact ⟨ad, p, h1, Pg.rep h2, hA⟩
theorem Pg.elem {l : List Pg} {base : Option Addr} {n : Nat} (h : Sl μ 1 base n (l.map Pg.d)) {i : Nat} {x : Pg} (hx : l[i]? = some x) : ∃ ad, ∃ p : Pg.P, ElemAt μ base n 1 i ad (x.cs p) ∧ RepV μ x.d (.agg (x.cs p).toArray) := by
  have hv_ := Pg.elemA h hx
  obtain ⟨ad, p, h1, h2, _⟩ := hv_
  exact ⟨ad, p, h1, h2⟩
theorem Pg.sz_eq (x : Pg) : x.d.sz = (x.rels.length + D.szs (x.rels.map Rl.d)) := by
  rw [Pg.d_eq]
  simp [D.sz, D.szs]
theorem szProgram_spec (x : Pg) {v : Value} {left : Int} (hv : RepV μ x.d v) (hl : 0 ≤ left) (hl2 : left ≤ 1048576) (hw : x.d.wd) : Gives Tryz.prog 38 [v, .int .i64 left] μ (.int .i64 (szR left x.d.sz)) := by
  have hv_ := Pg.inv hv
  obtain ⟨p, rfl, hA⟩ := hv_
  have hsz := Pg.sz_eq x
  rw [Pg.d_eq] at hw
  refine Spec.mk Tryz.func38 (by kernel_rfl) ?_
  intro r
  refine call_gives (szRelS_spec hA (by omega) (by omega) hw.1) ?_
  refine ifd (fun h => ret_gives (by have := szR_lt h; rw [szR_neg (by omega)]) rfl) (fun h => ?_)
  have q0 := szR_ge h
  rw [szR_pos q0] at h ⊢
  refine ret_gives ?_ rfl
  rw [szR_pos (by omega)]
  first | rfl | (congr 1; omega)
set_option maxRecDepth 4000 in
theorem toProgram_spec (x : Pg) {μ : Mem} {v : Value} (hv : RepV μ x.d v) (hb : x.d.sz ≤ 1048576) : Spec Tryz.prog 40 [v] μ fun v μ' => Fresh μ μ' x.d v := by
  have hv_ := Pg.inv hv
  obtain ⟨p, rfl, hA⟩ := hv_
  have hsz := Pg.sz_eq x
  have A0 := hA
  refine Spec.mk Tryz.func40 (by kernel_rfl) ?_
  intro r1 r2 r3
  refine call_plain (toRelS_spec A0 (by omega)) fun u0 μ0 hle0 hf0 => ?_
  have hv_ := Rep.sl hf0.rep
  obtain ⟨bb0, cc0, rfl, _⟩ := hv_
  rw [Pg.d_eq]
  exact ret_plain (FreshS.st (FreshS.cons hf0 hle0 (Mem.Le.refl _) (FreshS.nil)))
theorem eqProgram_spec (x : Pg) {v v' : Value} (hv : RepV μ x.d v) (hv' : RepV μ x.d v') : Gives Tryz.prog 42 [v, v'] μ (.bool true) := by
  have hv_ := Pg.inv hv
  obtain ⟨p, rfl, hA⟩ := hv_
  have hv_ := Pg.inv hv'
  obtain ⟨p', rfl, hB⟩ := hv_
  have A0 := hA
  have B0 := hB
  refine Spec.mk Tryz.func42 (by kernel_rfl) ?_
  intro r1 r2
  refine call_gives (eqRelS_spec A0 B0) ?_
  refine if_intro (fun h => nomatch h) (fun _ => ?_)
  exact ret_gives rfl rfl
theorem read_Program : Reads Tryz.prog 63 fun d => ∃ x : Pg, d = x.d ∧ x.d.wd
  | 0 => ReadsTo.zero _
  | n + 1 => (reads_struct ti63 rfl (FieldsTo.cons ti61 (read_RelS n) FieldsTo.nil)).weaken fun d h => by
    obtain ⟨ds, rfl, h⟩ := h
    obtain ⟨_, _, rfl, ⟨x0, rfl, w0⟩, q0⟩ := h.cons
    obtain rfl := q0.nil
    refine ⟨.mk x0, (Pg.d_eq (.mk x0)).symm, ?_⟩
    rw [Pg.d_eq]
    exact ⟨w0, trivial⟩
end
end Go.Vx

/- Contracts: relations of a program, calls that fit. -/
namespace Go.Vx
open Go.Proofs Classical
noncomputable def relFrom : List Rl → Nat → ByteArray → Int
  | [], _, _ => -1
  | r :: l, i, s => if r.name = s then i else relFrom l (i + 1) s
noncomputable def relAt (p : Pg) (s : ByteArray) : Int := relFrom p.rels 0 s
theorem relFrom_some {s : ByteArray} : ∀ {l : List Rl} {i : Nat}, 0 ≤ relFrom l i s → ∃ (j : Nat) (r : Rl), relFrom l i s = ((i + j : Nat) : Int) ∧ l[j]? = some r ∧ r.name = s
  | [], i, h => by simp [relFrom] at h
  | r :: l, i, h => by
    rw [relFrom] at h ⊢
    by_cases e : r.name = s
    · rw [if_pos e]; exact ⟨0, r, by simp, rfl, e⟩
    · rw [if_neg e] at h ⊢
      have hv_ := relFrom_some h
      obtain ⟨j, r', h1, h2, h3⟩ := hv_
      exact ⟨j + 1, r', by rw [h1]; congr 1; omega, h2, h3⟩
/-- A call that fits the program. -/
def CallFits (p : Pg) (g : Gl) : Prop := g.kind = 9 → ∃ (i : Nat) (r : Rl), relAt p g.name = i ∧ p.rels[i]? = some r ∧ r.arity = g.terms.length
section
variable {μ : Mem}
theorem relation_spec {p : Pg} {s : ByteArray} {v : Value} (hv : RepV μ p.d v) : Gives Tryz.prog 151 [v, .string s] μ (.int .i64 (relAt p s)) := by
  have hv_ := Pg.inv hv
  obtain ⟨q, rfl, hsl⟩ := hv_
  have hn := maxLen_le hsl.max
  refine Spec.mk Tryz.func151 (by kernel_rfl) ?_
  intro r
  refine loop_intro (fun i : Nat => i ≤ p.rels.length ∧ relFrom (p.rels.drop i) i s = relAt p s) (fun i => ⟨[(1, .val (.string s)), (8, .val (.slice q.1 p.rels.length q.2)), (9, .val (.int .i64 p.rels.length)), (10, .val (.int .i64 i))], [], 1, μ, Mem.nil⟩) (fun i => p.rels.length - i)
    0 ⟨by omega, rfl⟩ (fun _ => ⟨rfl, rfl⟩) ⟨⟨rfl, rfl, rfl, rfl, trivial⟩, trivial, rfl, rfl⟩ ?_
  rintro i ⟨hi, hJ⟩
  refine ifd (fun hlt => ?_) (fun hlt => ?_)
  · have hv_ := at_some (l := p.rels) (i := i) (by omega)
    obtain ⟨x, hx⟩ := hv_
    have hv_ := Rl.elem hsl hx
    obtain ⟨ad, q2, hel, hr⟩ := hv_
    rw [drop_at hx, relFrom] at hJ
    refine elem_intro hel ?_
    intro r2
    refine ifd (fun e => ?_) (fun e => ?_)
    · rw [if_pos e] at hJ
      exact ret_gives (by rw [← hJ]) rfl
    · rw [if_neg e] at hJ
      exact num64 (by omega) (by omega) ⟨i + 1, ⟨by omega, hJ⟩, by omega, ⟨⟨rfl, rfl, rfl, rfl, trivial⟩, trivial, rfl, rfl⟩⟩
  · obtain rfl : i = p.rels.length := by omega
    rw [List.drop_length] at hJ
    exact ret_gives (by rw [← hJ]; rfl) rfl
theorem l14Find_spec {p : Pg} {s : ByteArray} {v : Value} (hv : RepV μ p.d v) : Gives Tryz.prog 137 [v, .string s] μ (.int .i64 (relAt p s)) := by
  have hv_ := Pg.inv hv
  obtain ⟨q, rfl, hsl⟩ := hv_
  have hn := maxLen_le hsl.max
  refine Spec.mk Tryz.func137 (by kernel_rfl) ?_
  intro r
  refine loop_intro (fun i : Nat => i ≤ p.rels.length ∧ relFrom (p.rels.drop i) i s = relAt p s) (fun i => ⟨[(1, .val (.string s)), (8, .val (.slice q.1 p.rels.length q.2)), (9, .val (.int .i64 p.rels.length)), (10, .val (.int .i64 i))], [], 1, μ, Mem.nil⟩) (fun i => p.rels.length - i)
    0 ⟨by omega, rfl⟩ (fun _ => ⟨rfl, rfl⟩) ⟨⟨rfl, rfl, rfl, rfl, trivial⟩, trivial, rfl, rfl⟩ ?_
  rintro i ⟨hi, hJ⟩
  refine ifd (fun hlt => ?_) (fun hlt => ?_)
  · have hv_ := at_some (l := p.rels) (i := i) (by omega)
    obtain ⟨x, hx⟩ := hv_
    have hv_ := Rl.elem hsl hx
    obtain ⟨ad, q2, hel, hr⟩ := hv_
    rw [drop_at hx, relFrom] at hJ
    refine elem_intro hel ?_
    intro r2
    refine ifd (fun e => ?_) (fun e => ?_)
    · rw [if_pos e] at hJ
      exact ret_gives (by rw [← hJ]) rfl
    · rw [if_neg e] at hJ
      exact num64 (by omega) (by omega) ⟨i + 1, ⟨by omega, hJ⟩, by omega, ⟨⟨rfl, rfl, rfl, rfl, trivial⟩, trivial, rfl, rfl⟩⟩
  · obtain rfl : i = p.rels.length := by omega
    rw [List.drop_length] at hJ
    exact ret_gives (by rw [← hJ]; rfl) rfl
theorem relAt_some {p : Pg} {s : ByteArray} (h : 0 ≤ relAt p s) : ∃ (j : Nat) (r : Rl), relAt p s = (j : Int) ∧ p.rels[j]? = some r := by
  have hv_ := relFrom_some h
  obtain ⟨j, r, h1, h2, h3⟩ := hv_
  exact ⟨j, r, by rw [relAt, h1]; simp, h2⟩
theorem callFits_iff {p : Pg} {g : Gl} (h9 : g.kind = 9) {j : Nat} {r : Rl} (e : relAt p g.name = (j : Int)) (hr : p.rels[j]? = some r) : CallFits p g ↔ r.arity = g.terms.length := by
  constructor
  · intro h
    have hv_ := h h9
    obtain ⟨i, r', h1, h2, h3⟩ := hv_
    rw [e] at h1
    obtain rfl : j = i := by omega
    rw [hr] at h2; cases h2
    exact h3
  · intro h _
    exact ⟨j, r, e, hr, h⟩
theorem callFits_neg {p : Pg} {g : Gl} (h9 : g.kind = 9) (h : ¬ 0 ≤ relAt p g.name) : ¬ CallFits p g := fun k => by
  have hv_ := k h9
  obtain ⟨i, r', h1, _, _⟩ := hv_
  omega
/-- All calls in a goal fit. -/
inductive FitAll (p : Pg) : Gl → Prop
  | mk {g : Gl} (top : CallFits p g) (sub : ∀ x ∈ g.goals, FitAll p x) : FitAll p g
theorem FitAll.top {p : Pg} {g : Gl} (h : FitAll p g) : CallFits p g := by cases h; assumption
theorem FitAll.sub {p : Pg} {g : Gl} (h : FitAll p g) : ∀ x ∈ g.goals, FitAll p x := by cases h; assumption
theorem l14Calls_spec {p : Pg} {vp : Value} (hp : RepV μ p.d vp) : ∀ (g : Gl) {v : Value}, g.Sh → RepV μ g.d v → Gives Tryz.prog 288 [vp, v] μ (.bool (decide (FitAll p g))) := by
  have hv_ := Pg.inv hp
  obtain ⟨q, rfl, hrl⟩ := hv_
  refine Gl.ind fun g ih v hS hv => ?_
  have hv_ := Gl.inv hv
  obtain ⟨q2, rfl, hts, hgs⟩ := hv_
  have hn := maxLen_le hgs.max
  refine Spec.mk Tryz.func288 (by kernel_rfl) ?_
  intro r1 r2
  refine ifd (fun h9 => ?_) (fun h9 => ?_)
  · have hg0 : g.goals = [] := List.eq_nil_of_length_eq_zero (hS.top.gl0 (.inr h9))
    have hiff : FitAll p g ↔ CallFits p g := ⟨fun h => h.top, fun h => .mk h (by rw [hg0]; simp)⟩
    refine call_gives (l14Find_spec hp) ?_
    refine ifd (fun h0 => ?_) (fun h0 => ret_gives (isF fun h => callFits_neg h9 h0 h.top) rfl)
    have hv_ := relAt_some h0
    obtain ⟨j, rl, e, hr⟩ := hv_
    have hv_ := Rl.elem hrl hr
    obtain ⟨ad, q3, hel, hrr⟩ := hv_
    rw [e]
    refine elem_intro hel ?_
    exact ret_gives (isI ((callFits_iff h9 e hr).symm.trans hiff.symm)) rfl
  · refine loop_intro (fun i : Nat => i ≤ g.goals.length ∧ ∀ x ∈ g.goals.take i, FitAll p x) (fun i => ⟨[(2, .loc 0 r1 0), (30, .val (.slice q2.2.1 g.goals.length q2.2.2)), (31, .val (.int .i64 g.goals.length)), (32, .val (.int .i64 i))], [(0, some (.cells r1 [.val (.slice q.1 p.rels.length q.2)] 67))], 2, μ, Mem.nil⟩) (fun i => g.goals.length - i)
      0 ⟨by omega, by simp⟩ (fun _ => ⟨rfl, rfl⟩) ⟨⟨rfl, rfl, rfl, rfl, trivial⟩, ⟨rfl, trivial⟩, rfl, rfl⟩ ?_
    rintro i ⟨hi, hall⟩
    refine ifd (fun hlt => ?_) (fun hlt => ?_)
    · have hv_ := at_some (l := g.goals) (i := i) (by omega)
      obtain ⟨t, ht⟩ := hv_
      have hv_ := Gl.elem hgs ht
      obtain ⟨ad, q3, hel, hr⟩ := hv_
      refine elem_intro hel ?_
      intro r3
      refine call_gives (ih t (mem_at ht) (hS.sub t (mem_at ht)) hr) ?_
      refine ifnd (fun h => ret_gives (isF fun S => h (S.sub t (mem_at ht))) rfl) (fun h => ?_)
      refine num64 (by omega) (by omega) ⟨i + 1, ⟨by omega, fun x hx => ?_⟩, by omega, ⟨⟨rfl, rfl, rfl, rfl, trivial⟩, ⟨rfl, trivial⟩, rfl, rfl⟩⟩
      rw [List.take_add_one, ht, Option.toList_some, List.mem_append, List.mem_singleton] at hx
      rcases hx with hx | rfl
      · exact hall x hx
      · exact h
    · obtain rfl : i = g.goals.length := by omega
      rw [List.take_length] at hall
      exact ret_gives (isT (.mk (fun h => absurd h h9) hall)) rfl
end
end Go.Vx

/- Contracts: calls that fit, the program's side. -/
namespace Go.Vx
open Go.Proofs Classical
theorem FitAll.all {p : Pg} : ∀ {g : Gl}, FitAll p g → ∀ x ∈ g.all, CallFits p x := fun {g} => by
  refine Gl.ind (q := fun g => FitAll p g → ∀ x ∈ g.all, CallFits p x) (fun g ih h x hx => ?_) g
  rw [Gl.all_eq] at hx
  rcases List.mem_cons.1 hx with rfl | hx
  · exact h.top
  · have hv_ := List.mem_flatMap.1 hx
    obtain ⟨y, hy, hx⟩ := hv_
    exact ih y hy (h.sub y hy) x hx
theorem FitAll.of {p : Pg} : ∀ {g : Gl}, (∀ x ∈ g.all, CallFits p x) → FitAll p g := fun {g} => by
  refine Gl.ind (q := fun g => (∀ x ∈ g.all, CallFits p x) → FitAll p g) (fun g ih h => ?_) g
  rw [Gl.all_eq] at h
  exact .mk (h g (by simp)) fun y hy => ih y hy fun x hx => h x (List.mem_cons_of_mem _ (List.mem_flatMap.2 ⟨y, hy, hx⟩))
theorem foldl_and {α : Type} (f : α → Prop) : ∀ (l : List α) (b : Bool), l.foldl (fun b x => b && decide (f x)) b = (b && decide (∀ x ∈ l, f x))
  | [], b => by simp
  | a :: l, b => by
    rw [List.foldl_cons, foldl_and f l, Bool.and_assoc]
    congr 1
    by_cases h : f a
    · simp [h]
    · simp [h]
section
variable {μ : Mem}
theorem callsFit1_spec {p : Pg} {q : Pg.P} {rp rf : Nat} {b : Bool} {h : Mem} {g : Gl} {v : Value} (hp : RepV μ p.d (.agg #[.slice q.1 p.rels.length q.2])) (hrl : Sl μ 7 q.1 p.rels.length (p.rels.map Rl.d)) (hat : μ rp = some (.cells #[.slice q.1 p.rels.length q.2] 67 (0, 0)))
    (hv : RepV μ g.d v) (hf : h rf = some (.cells #[.bool b] 4 (0, 0))) :
    SpecH Tryz.prog 293 [v, .pointer (some ⟨rp, 0, none⟩), .pointer (some ⟨rf, 0, none⟩)] μ h fun r μ' h' => r = .tuple #[] ∧ μ' = μ ∧ h' rf = some (.cells #[.bool (b && decide (CallFits p g))] 4 (0, 0)) := by
  have hv_ := Gl.inv hv
  obtain ⟨q2, rfl, hts, hgs⟩ := hv_
  refine SpecH.mk [] Tryz.func293 (by kernel_rfl) ?_
  intro r
  refine ifd (fun h9 => ?_) (fun h9 => ?_)
  rotate_left
  · have : CallFits p g := fun k => absurd k h9
    exact ret_plain ⟨rfl, rfl, by rw [decide_eq_true this, Bool.and_true]; exact hf⟩
  refine ext_intro [.slice q.1 p.rels.length q.2] rfl (box_at hat) ?_
  refine call_gives (relation_spec hp) ?_
  refine ifd (fun h0 => ?_) (fun h0 => ?_)
  · have : ¬ CallFits p g := callFits_neg h9 (by omega)
    refine sto_intro [.bool b] 4 hf rfl (Nat.le_refl _) ?_
    exact ret_plain ⟨rfl, rfl, by rw [decide_eq_false this, Bool.and_false]; exact Mem.set_at _ _ _⟩
  · have hv_ := relAt_some (Int.not_lt.1 h0)
    obtain ⟨j, rl, e, hr⟩ := hv_
    have hv_ := Rl.elem hrl hr
    obtain ⟨ad, q3, hel, hrr⟩ := hv_
    have hiff := callFits_iff h9 e hr
    refine ext_intro [.slice q.1 p.rels.length q.2] rfl (fun j v hj => by show μ.cell (((⟨rp, 0, none⟩ : Addr).add 0).add j) = some v; rw [add_add, Nat.zero_add]; exact box_at hat j v hj) ?_
    rw [e]
    refine elem_intro hel ?_
    refine ifnd (fun hne => ?_) (fun heq => ?_)
    · have : ¬ CallFits p g := fun k => hne (hiff.1 k)
      refine sto_intro [.bool b] 4 hf rfl (Nat.le_refl _) ?_
      exact ret_plain ⟨rfl, rfl, by rw [decide_eq_false this, Bool.and_false]; exact Mem.set_at _ _ _⟩
    · have : CallFits p g := hiff.2 heq
      exact ret_plain ⟨rfl, rfl, by rw [decide_eq_true this, Bool.and_true]; exact hf⟩
theorem callsFit_spec {p : Pg} {vp v : Value} {g : Gl} (hp : RepV μ p.d vp) (hv : RepV μ g.d v) : Spec Tryz.prog 212 [vp, v] μ fun r _ => r = .bool (decide (FitAll p g)) := by
  have hv_ := Pg.inv hp
  obtain ⟨q, rfl, hrl⟩ := hv_
  have hv_ := Gl.invV hv
  obtain ⟨q2, rfl⟩ := hv_
  refine Spec.mkO [5] Tryz.func212 (by kernel_rfl) ?_
  intro r1 r2
  intro rf hmf hof
  refine sto_intro [.bool false] 4 (Mem.set_at _ _ _) rfl (Nat.le_refl _) ?_
  generalize hh : Mem.set (Mem.set _ rf _) rf _ = h0
  have hf0 : h0 rf = some (.cells #[.bool true] 4 (0, 0)) := by subst hh; rw [Mem.set_at]; rfl
  refine call_gen [0] [] (fun _ => rfl) ?_
  intro μ1 hle1 hno1 hat1
  refine own_go (eachGoal_rel (fun b h => h rf = some (.cells #[.bool b] 4 (0, 0))) (fun b x => b && decide (CallFits p x)) (fun _ => True) (fun b h x w _ hw hj => callsFit1_spec (hp.mono hle1) (hrl.mono hle1) hat1 hw hj) g true h0 (hv.mono hle1) (fun _ _ => trivial) hf0) fun v μ2 h' hle hap hR => ?_
  obtain ⟨rfl, e2, hj⟩ := hR
  obtain rfl := e2.symm
  rw [foldl_and, Bool.true_and] at hj
  refine own_intro [.bool _] rfl (box_at hj) ?_
  exact ret_plain (isI ⟨fun h => FitAll.of h, fun h => h.all⟩)
end
end Go.Vx

/- Contracts: well-formed programs, the program's side. -/
namespace Go.Vx
open Go.Proofs Classical
structure RelOk (p : Pg) (i : Nat) (r : Rl) : Prop where
  at_ : relAt p r.name = i
  name : IsRel r.name
  ar0 : 0 ≤ r.arity
  ar4 : r.arity ≤ 4
  lo0 : 0 ≤ r.locals
  lo8 : r.locals ≤ 8
  body : r.body.Sh
  size : r.body.cnt ≤ 60
  vars : ∀ n ∈ r.body.vars, n < r.arity + r.locals
  calls : FitAll p r.body
def Pg.Ok (p : Pg) : Prop := p.rels.length ≤ 8 ∧ ∀ (i : Nat) (r : Rl), p.rels[i]? = some r → RelOk p i r
section
variable {μ : Mem}
theorem impl_ProgramOk_spec {p : Pg} {v : Value} (hp : RepV μ p.d v) : Spec Tryz.prog 127 [v] μ fun r _ => r = .bool (decide p.Ok) := by
  have hv_ := Pg.inv hp
  obtain ⟨q, rfl, hrl⟩ := hv_
  refine Spec.mk Tryz.func127 (by kernel_rfl) ?_
  intro r1
  refine ifd (fun h8 => ret_plain (isF fun h => by have := h.1; omega)) (fun h8 => ?_)
  refine loop_intro (fun x : Nat × Mem => x.1 ≤ p.rels.length ∧ μ.Le x.2 ∧ ∀ (j : Nat) (r : Rl), j < x.1 → p.rels[j]? = some r → RelOk p j r)
    (fun (i, μ') => ⟨[(1, .loc 0 r1 0), (10, .val (.slice q.1 p.rels.length q.2)), (11, .val (.int .i64 p.rels.length)), (12, .val (.int .i64 i))], [(0, some (.cells r1 [.val (.slice q.1 p.rels.length q.2)] 67))], 1, μ', Mem.nil⟩) (fun x => p.rels.length - x.1)
    (0, μ) ⟨by simp, Mem.Le.refl _, fun j r hj => by simp at hj⟩ (fun (_, _) => ⟨rfl, rfl⟩) ⟨⟨rfl, rfl, rfl, rfl, trivial⟩, ⟨rfl, trivial⟩, rfl, rfl⟩ ?_
  rintro ⟨i, μ'⟩ ⟨hi, hle, hall⟩
  dsimp only at hi hle hall
  refine ifd (fun hlt => ?_) (fun hlt => ?_)
  · have hv_ := at_some (l := p.rels) (i := i) (by omega)
    obtain ⟨x, hx⟩ := hv_
    have hv_ := Rl.elemA (hrl.mono hle) hx
    obtain ⟨ad, q2, hel, hr, hb⟩ := hv_
    have hb : RepV μ' x.body.d (.agg (x.body.cs q2).toArray) := hb
    have bad : ¬ RelOk p i x → Value.bool false = .bool (decide p.Ok) := fun h => isF fun k => h (k.2 i x hx)
    refine elem_intro hel ?_
    intro r2
    refine call_gives (impl_IsRelName_spec _ _) ?_
    refine ifnd (fun h => ret_plain (bad fun k => h k.name)) (fun g1 => ?_)
    refine call_gives (relation_spec (hp.mono hle)) ?_
    refine ifnd (fun h => ret_plain (bad fun k => h k.at_)) (fun g2 => ?_)
    refine ifd (fun h => ret_plain (bad fun k => by have := k.ar0; omega)) (fun g3 => ?_)
    refine ifd (fun h => ret_plain (bad fun k => by have := k.ar4; omega)) (fun g4 => ?_)
    refine ifd (fun h => ret_plain (bad fun k => by have := k.lo0; omega)) (fun g5 => ?_)
    refine ifd (fun h => ret_plain (bad fun k => by have := k.lo8; omega)) (fun g6 => ?_)
    refine call_gives (goalNodes_spec x.body hb (by decide) (by decide)) ?_
    refine ifd (fun h => ret_plain (bad fun k => Gl.nodes_lt h ⟨k.body, by have := k.size; omega⟩)) (fun h => ?_)
    have hv_ := Gl.nodes_ge h
    obtain ⟨g7, g8, _⟩ := hv_
    refine num64 (by omega) (by omega) ?_
    refine call_plain (varsBelow_spec g7 hb) fun v1 μ1 hle1 hR => ?_
    obtain rfl := hR
    refine ifnd (fun h => ret_plain (bad fun k => h k.vars)) (fun g9 => ?_)
    refine call_plain (callsFit_spec ((hp.mono hle).mono hle1) (hb.mono hle1)) fun v2 μ2 hle2 hR => ?_
    obtain rfl := hR
    refine ifnd (fun h => ret_plain (bad fun k => h k.calls)) (fun g10 => ?_)
    have hok : RelOk p i x := ⟨g2, g1, by omega, by omega, by omega, by omega, g7, by omega, g9, g10⟩
    refine num64 (by omega) (by omega) ⟨(i + 1, μ2), ⟨by dsimp only; omega, (hle.trans hle1).trans hle2, fun j r hj hr => ?_⟩, by dsimp only; omega, ⟨⟨rfl, rfl, rfl, rfl, trivial⟩, ⟨rfl, trivial⟩, rfl, rfl⟩⟩
    rcases Nat.lt_or_ge j i with h6 | h6
    · exact hall j r h6 hr
    · obtain rfl : j = i := by omega
      rw [hx] at hr; cases hr; exact hok
  · obtain rfl : i = p.rels.length := by omega
    exact ret_plain (isT ⟨by omega, fun j r hr => hall j r (List.getElem?_eq_some_iff.1 hr).1 hr⟩)
/-- How many nodes a goal has; none if it is not well-formed. -/
noncomputable def Gl.count (g : Gl) : Int := if g.Ok then g.cnt else 0
theorem spec_GoalSize_spec (g : Gl) {v : Value} (hv : RepV μ g.d v) (hw : g.d.wd) : Gives Tryz.prog 204 [v] μ (.int .i64 g.count) := by
  have hv_ := Gl.invV hv
  obtain ⟨p, rfl⟩ := hv_
  refine Spec.mk Tryz.func204 (by kernel_rfl) ?_
  intro r
  refine call_gives (spec_GoalOk_spec g hv hw) ?_
  refine ifnd (fun h => ret_gives (by rw [Gl.count, if_neg h]) rfl) (fun h => ?_)
  refine call_gives (l13Count_spec g hv (by decide) (by decide)) ?_
  refine ret_gives ?_ rfl
  congr 1
  have := h.2
  have := g.cnt_pos
  rw [Gl.count, if_pos h, upTo]
  omega
end
end Go.Vx

/- Contracts: the reference's lists of variables, sorted; goals that fit. -/
namespace Go.Vx
open Go.Proofs Classical
theorem ins_sorted {l : List Int} {n : Int} {k : Nat} (hs : l.Pairwise (· < ·)) (h1 : ∀ y ∈ l.take k, y < n) (h2 : ∀ y ∈ l.drop k, n < y) : (insInt l n k).Pairwise (· < ·) := by
  unfold insInt
  rw [List.pairwise_append]
  refine ⟨hs.sublist (List.take_sublist _ _), ?_, ?_⟩
  · rw [List.singleton_append, List.pairwise_cons]
    exact ⟨h2, hs.sublist (List.drop_sublist _ _)⟩
  · intro a ha b hb
    rcases List.mem_append.1 hb with hb | hb
    · rw [List.mem_singleton] at hb; subst hb; exact h1 a ha
    · have := h1 a ha; have := h2 b hb; omega
theorem srt_get {l : List Int} (hs : l.Pairwise (· < ·)) {i j : Nat} {x y : Int} (h : i < j) (hx : l[i]? = some x) (hy : l[j]? = some y) : x < y := by
  have hv_ := List.getElem?_eq_some_iff.1 hx
  obtain ⟨h1, rfl⟩ := hv_
  have hv_ := List.getElem?_eq_some_iff.1 hy
  obtain ⟨h2, rfl⟩ := hv_
  exact List.pairwise_iff_getElem.1 hs i j h1 h2 h
theorem take_lt {l : List Int} (hs : l.Pairwise (· < ·)) {k : Nat} {n : Int} (h : k = 0 ∨ ∃ x, l[k - 1]? = some x ∧ x < n) : ∀ y ∈ l.take k, y < n := fun y hy => by
  have hv_ := List.mem_iff_getElem?.1 hy
  obtain ⟨i, hi⟩ := hv_
  rw [List.getElem?_take] at hi
  split at hi
  · rename_i hik
    rcases h with rfl | ⟨x, hx, hxn⟩
    · omega
    · rcases Nat.lt_or_ge i (k - 1) with h1 | h1
      · have := srt_get hs h1 hi hx; omega
      · obtain rfl : i = k - 1 := by omega
        rw [hx] at hi; cases hi; exact hxn
  · cases hi
theorem drop_gt {l : List Int} (hs : l.Pairwise (· < ·)) {k : Nat} {n : Int} (h : ∀ (j : Nat) y, k ≤ j → l[j]? = some y → n ≤ y) (hne : ∀ y, l[k]? = some y → y ≠ n) : ∀ y ∈ l.drop k, n < y := fun y hy => by
  have hv_ := List.mem_iff_getElem?.1 hy
  obtain ⟨i, hi⟩ := hv_
  rw [List.getElem?_drop] at hi
  have h1 := h (k + i) y (by omega) hi
  rcases Nat.eq_zero_or_pos i with rfl | h2
  · have := hne y (by simpa using hi)
    omega
  · have hk : k < l.length := by have := (List.getElem?_eq_some_iff.1 hi).1; omega
    have hkk : l[k]? = some l[k] := List.getElem?_eq_getElem hk
    have h3 := h k _ (Nat.le_refl _) hkk
    have := srt_get hs (by omega : k < k + i) hkk hi
    omega
section
variable {μ : Mem}
theorem l02InsertS_spec {l : List Int} {v : Value} {n : Int} (hv : RepV μ (.sl 1 (l.map D.i)) v) (hb : l.length ≤ 1000000000) (hs : l.Pairwise (· < ·)) : Spec Tryz.prog 252 [v, .int .i64 n] μ fun v μ' => ∃ r : List Int, RepV μ' (.sl 1 (r.map D.i)) v ∧ (∀ x, x ∈ r ↔ x = n ∨ x ∈ l) ∧ r.Pairwise (· < ·) := by
  have hv_ := Rep.sl hv
  obtain ⟨base, cap, rfl, hsl⟩ := hv_
  have hcap := Rep.lens hv
  rw [List.length_map] at hsl hcap hv ⊢
  refine Spec.mk Tryz.func252 (by kernel_rfl) ?_
  refine loop_intro (fun k : Nat => k ≤ l.length ∧ ∀ (j : Nat) y, k ≤ j → l[j]? = some y → n ≤ y) (fun k => ⟨[(0, .val (.slice base l.length cap)), (1, .val (.int .i64 n)), (5, .val (.int .i64 k))], [], 0, μ, Mem.nil⟩) (fun k => k)
    l.length ⟨Nat.le_refl _, fun j y hj hy => absurd (List.getElem?_eq_some_iff.1 hy).1 (by omega)⟩ (fun i => ⟨rfl, rfl⟩) ⟨⟨rfl, rfl, rfl, trivial⟩, trivial, rfl, rfl⟩ ?_
  rintro k ⟨hk, hge⟩
  refine ifd (fun h1 => ?_) (fun h1 => ?_)
  · have hv_ := at_some (l := l) (i := k - 1) (by omega)
    obtain ⟨x, hx⟩ := hv_
    have hv_ := Ints.elem hsl hx
    obtain ⟨ad, hel⟩ := hv_
    refine num_eq (x := ((k - 1 : Nat) : Int)) (by rw [wrap64 (by omega) (by omega)]; omega) ?_
    refine elem_intro hel ?_
    refine ifd (fun h2 => ?_) (fun h2 => ?_)
    · refine num_eq (x := ((k - 1 : Nat) : Int)) (by rw [wrap64 (by omega) (by omega)]; omega) ⟨k - 1, ⟨by omega, fun j y hj hy => ?_⟩, by omega, ⟨⟨rfl, rfl, rfl, trivial⟩, trivial, rfl, rfl⟩⟩
      rcases Nat.lt_or_ge j k with h3 | h3
      · obtain rfl : j = k - 1 := by omega
        rw [hx] at hy; cases hy; exact h2
      · exact hge j y h3 hy
    · have htk := take_lt hs (k := k) (n := n) (.inr ⟨x, hx, by omega⟩)
      refine ifd (fun h3 => ?_) (fun h3 => ?_)
      · have hv_ := at_some (l := l) (i := k) (by omega)
        obtain ⟨y, hy⟩ := hv_
        have hv_ := Ints.elem hsl hy
        obtain ⟨ad2, hel2⟩ := hv_
        refine elem_intro hel2 ?_
        refine ifd (fun h4 => ret_plain ⟨l, hv, fun x => ⟨.inr, fun hx => hx.elim (fun e => by rw [e, ← h4]; exact mem_at hy) id⟩, hs⟩) (fun h4 => ?_)
        have hgt := drop_gt hs hge (fun z hz => by rw [hy] at hz; cases hz; exact h4)
        intro r0
        refine cut_intro 0 k rfl rfl (by omega) (by omega) ?_
        refine src_intro _ (Ints.src hsl (a := 0) (b := k) (by omega) hk hcap) ?_
        refine grow_intro ?_ ?_ fun b1 c1 _ => ?_
        · show (0 + (ints _).length) * 8 ≤ _; simp [ints]; omega
        · show 0 + (ints _).length ≤ 9223372036854775807; simp [ints]; omega
        intro r1
        refine grow_intro ?_ ?_ fun b2 c2 _ => ?_
        · show (([] ++ ints _).length + 1) * 8 ≤ _; simp [ints]; omega
        · show ([] ++ ints _).length + 1 ≤ 9223372036854775807; simp [ints]; omega
        refine cut_intro k l.length rfl rfl hk (by omega) ?_
        refine src_intro _ (Ints.src hsl (a := k) (b := l.length) hk (Nat.le_refl _) hcap) ?_
        refine grow_intro ?_ ?_ fun b3 c3 _ => ?_
        · show (([] ++ ints _ ++ [_]).length + (ints _).length) * 8 ≤ _; simp [ints]; omega
        · show ([] ++ ints _ ++ [_]).length + (ints _).length ≤ 9223372036854775807; simp [ints]; omega
        refine ret_frz [0] fun μ' hle hno hrow => .inl ⟨insInt l n k, ?_, insInt_mem l n k, ins_sorted hs htk hgt⟩
        have e : [] ++ ints ((l.drop 0).take (k - 0)) ++ [.int .i64 n] ++ ints ((l.drop k).take (l.length - k)) = ints (insInt l n k) := by
          simp [ints, insInt]
          rw [List.take_of_length_le (by simp)]
        rw [e] at hrow ⊢
        exact Ints.sl hrow (Nat.le_trans (m := 2000000000) (by simp [insInt]; omega) (by decide))
      · have hgt := drop_gt hs hge (fun z hz => by have := (List.getElem?_eq_some_iff.1 hz).1; omega)
        intro r0
        refine cut_intro 0 k rfl rfl (by omega) (by omega) ?_
        refine src_intro _ (Ints.src hsl (a := 0) (b := k) (by omega) hk hcap) ?_
        refine grow_intro ?_ ?_ fun b1 c1 _ => ?_
        · show (0 + (ints _).length) * 8 ≤ _; simp [ints]; omega
        · show 0 + (ints _).length ≤ 9223372036854775807; simp [ints]; omega
        intro r1
        refine grow_intro ?_ ?_ fun b2 c2 _ => ?_
        · show (([] ++ ints _).length + 1) * 8 ≤ _; simp [ints]; omega
        · show ([] ++ ints _).length + 1 ≤ 9223372036854775807; simp [ints]; omega
        refine cut_intro k l.length rfl rfl hk (by omega) ?_
        refine src_intro _ (Ints.src hsl (a := k) (b := l.length) hk (Nat.le_refl _) hcap) ?_
        refine grow_intro ?_ ?_ fun b3 c3 _ => ?_
        · show (([] ++ ints _ ++ [_]).length + (ints _).length) * 8 ≤ _; simp [ints]; omega
        · show ([] ++ ints _ ++ [_]).length + (ints _).length ≤ 9223372036854775807; simp [ints]; omega
        refine ret_frz [0] fun μ' hle hno hrow => .inl ⟨insInt l n k, ?_, insInt_mem l n k, ins_sorted hs htk hgt⟩
        have e : [] ++ ints ((l.drop 0).take (k - 0)) ++ [.int .i64 n] ++ ints ((l.drop k).take (l.length - k)) = ints (insInt l n k) := by
          simp [ints, insInt]
          rw [List.take_of_length_le (by simp)]
        rw [e] at hrow ⊢
        exact Ints.sl hrow (Nat.le_trans (m := 2000000000) (by simp [insInt]; omega) (by decide))
  · have htk := take_lt hs (k := k) (n := n) (.inl (by omega))
    refine ifd (fun h3 => ?_) (fun h3 => ?_)
    · have hv_ := at_some (l := l) (i := k) (by omega)
      obtain ⟨y, hy⟩ := hv_
      have hv_ := Ints.elem hsl hy
      obtain ⟨ad2, hel2⟩ := hv_
      refine elem_intro hel2 ?_
      refine ifd (fun h4 => ret_plain ⟨l, hv, fun x => ⟨.inr, fun hx => hx.elim (fun e => by rw [e, ← h4]; exact mem_at hy) id⟩, hs⟩) (fun h4 => ?_)
      have hgt := drop_gt hs hge (fun z hz => by rw [hy] at hz; cases hz; exact h4)
      intro r0
      refine cut_intro 0 k rfl rfl (by omega) (by omega) ?_
      refine src_intro _ (Ints.src hsl (a := 0) (b := k) (by omega) hk hcap) ?_
      refine grow_intro ?_ ?_ fun b1 c1 _ => ?_
      · show (0 + (ints _).length) * 8 ≤ _; simp [ints]; omega
      · show 0 + (ints _).length ≤ 9223372036854775807; simp [ints]; omega
      intro r1
      refine grow_intro ?_ ?_ fun b2 c2 _ => ?_
      · show (([] ++ ints _).length + 1) * 8 ≤ _; simp [ints]; omega
      · show ([] ++ ints _).length + 1 ≤ 9223372036854775807; simp [ints]; omega
      refine cut_intro k l.length rfl rfl hk (by omega) ?_
      refine src_intro _ (Ints.src hsl (a := k) (b := l.length) hk (Nat.le_refl _) hcap) ?_
      refine grow_intro ?_ ?_ fun b3 c3 _ => ?_
      · show (([] ++ ints _ ++ [_]).length + (ints _).length) * 8 ≤ _; simp [ints]; omega
      · show ([] ++ ints _ ++ [_]).length + (ints _).length ≤ 9223372036854775807; simp [ints]; omega
      refine ret_frz [0] fun μ' hle hno hrow => .inl ⟨insInt l n k, ?_, insInt_mem l n k, ins_sorted hs htk hgt⟩
      have e : [] ++ ints ((l.drop 0).take (k - 0)) ++ [.int .i64 n] ++ ints ((l.drop k).take (l.length - k)) = ints (insInt l n k) := by
        simp [ints, insInt]
        rw [List.take_of_length_le (by simp)]
      rw [e] at hrow ⊢
      exact Ints.sl hrow (Nat.le_trans (m := 2000000000) (by simp [insInt]; omega) (by decide))
    · have hgt := drop_gt hs hge (fun z hz => by have := (List.getElem?_eq_some_iff.1 hz).1; omega)
      intro r0
      refine cut_intro 0 k rfl rfl (by omega) (by omega) ?_
      refine src_intro _ (Ints.src hsl (a := 0) (b := k) (by omega) hk hcap) ?_
      refine grow_intro ?_ ?_ fun b1 c1 _ => ?_
      · show (0 + (ints _).length) * 8 ≤ _; simp [ints]; omega
      · show 0 + (ints _).length ≤ 9223372036854775807; simp [ints]; omega
      intro r1
      refine grow_intro ?_ ?_ fun b2 c2 _ => ?_
      · show (([] ++ ints _).length + 1) * 8 ≤ _; simp [ints]; omega
      · show ([] ++ ints _).length + 1 ≤ 9223372036854775807; simp [ints]; omega
      refine cut_intro k l.length rfl rfl hk (by omega) ?_
      refine src_intro _ (Ints.src hsl (a := k) (b := l.length) hk (Nat.le_refl _) hcap) ?_
      refine grow_intro ?_ ?_ fun b3 c3 _ => ?_
      · show (([] ++ ints _ ++ [_]).length + (ints _).length) * 8 ≤ _; simp [ints]; omega
      · show ([] ++ ints _ ++ [_]).length + (ints _).length ≤ 9223372036854775807; simp [ints]; omega
      refine ret_frz [0] fun μ' hle hno hrow => .inl ⟨insInt l n k, ?_, insInt_mem l n k, ins_sorted hs htk hgt⟩
      have e : [] ++ ints ((l.drop 0).take (k - 0)) ++ [.int .i64 n] ++ ints ((l.drop k).take (l.length - k)) = ints (insInt l n k) := by
        simp [ints, insInt]
        rw [List.take_of_length_le (by simp)]
      rw [e] at hrow ⊢
      exact Ints.sl hrow (Nat.le_trans (m := 2000000000) (by simp [insInt]; omega) (by decide))
/-- A list of variables: sorted, in range. -/
structure VL (l : List Int) : Prop where
  srt : l.Pairwise (· < ·)
  rng : ∀ x ∈ l, 0 ≤ x ∧ x ≤ 100000
theorem VL.len {l : List Int} (h : VL l) : l.length ≤ 100001 := by
  refine nodup_range (N := 100001) ?_ fun n hn => by have := h.rng n hn; omega
  rw [List.nodup_iff_pairwise_ne]
  exact h.srt.imp fun hab e => by omega
def VarsS (μ' : Mem) (l vs : List Int) (v : Value) : Prop := ∃ r : List Int, RepV μ' (.sl 1 (r.map D.i)) v ∧ (∀ x, x ∈ r ↔ x ∈ vs ∨ x ∈ l) ∧ VL r
theorem l02VarsS_spec : ∀ (x : T) {μ : Mem} {l : List Int} {w v : Value}, x.good → RepV μ x.tm.d w → RepV μ (.sl 1 (l.map D.i)) v → VL l → Spec Tryz.prog 167 [w, v] μ fun v μ' => VarsS μ' l x.vars v :=
  T.ind fun x ih μ l w v hgd hw hv hb => by
    have hrng := T.vars_range hgd
    have hv_ := T.inv hw
    obtain ⟨base, cap, rfl, hsl⟩ := hv_
    have hn := maxLen_le hsl.max
    refine Spec.mk Tryz.func167 (by kernel_rfl) ?_
    intro r
    refine ifd (fun h => ?_) (fun h => ?_)
    · have e : x.vars = [x.tm.num] := by cases x <;> simp_all [T.vars, T.tm, Tm.kind, Tm.num]
      refine call_plain (l02InsertS_spec hv (by have := hb.len; omega) hb.srt) fun v' μ' hle hR => ret_plain ?_
      obtain ⟨r, h1, h2, h3⟩ := hR
      refine ⟨r, h1, by simpa [e] using h2, h3, fun y hy => ?_⟩
      rcases (h2 y).1 hy with rfl | hy
      · exact hrng _ (by rw [e]; simp)
      · exact hb.rng y hy
    have e := T.vars_args h
    have hgs : ∀ y ∈ x.args, y.good := fun y hy => by
      cases x with
      | pair a b =>
        simp only [T.args, List.mem_cons, List.not_mem_nil, or_false] at hy
        rcases hy with rfl | rfl
        · exact hgd.1
        · exact hgd.2
      | _ => simp [T.args] at hy
    refine loop_intro (fun p : Nat × Value × Mem => p.1 ≤ x.args.length ∧ μ.Le p.2.2 ∧ VarsS p.2.2 l ((x.args.take p.1).flatMap T.vars) p.2.1)
      (fun (i, v, μ') => ⟨[(1, .val v), (15, .val (.slice base x.args.length cap)), (16, .val (.int .i64 x.args.length)), (17, .val (.int .i64 i))], [], 1, μ', Mem.nil⟩) (fun p => x.args.length - p.1)
      (0, v, μ) ⟨by simp, Mem.Le.refl μ, l, hv, by simp, hb⟩ (fun (_, _, _) => ⟨rfl, rfl⟩) ⟨⟨rfl, rfl, rfl, rfl, trivial⟩, trivial, rfl, rfl⟩ ?_
    rintro ⟨i, v, μ'⟩ ⟨hi, hle, r, h1, h2, h3⟩
    dsimp only at hi hle h1 h2 h3
    refine ifd (fun h => ?_) (fun h => ?_)
    · have hv_ := at_some (l := x.args) (i := i) (by omega)
      obtain ⟨t, ht⟩ := hv_
      have ht' : (x.args.map T.tm)[i]? = some t.tm := by simp [ht]
      have hv_ := Tm.elem (hsl.mono hle) ht'
      obtain ⟨ad, p, hel, hr⟩ := hv_
      have hsucc : (x.args.take (i + 1)).flatMap T.vars = (x.args.take i).flatMap T.vars ++ t.vars := by
        rw [List.take_add_one, ht, Option.toList_some, List.flatMap_append]; simp
      refine elem_intro hel ?_
      intro r2
      refine call_plain (ih t (mem_at ht) (hgs t (mem_at ht)) hr h1 h3) fun v' μ'' hle2 hR => ?_
      obtain ⟨q, g1, g2, g3⟩ := hR
      refine num64 (by omega) (by omega) ⟨(i + 1, v', μ''), ⟨by dsimp only; omega, hle.trans hle2, q, g1, fun y => ?_, g3⟩, by dsimp only; omega, ⟨⟨rfl, rfl, rfl, rfl, trivial⟩, trivial, rfl, rfl⟩⟩
      dsimp only
      rw [g2, h2, hsucc, List.mem_append]
      constructor
      · rintro (h | h | h) <;> simp [h]
      · rintro ((h | h) | h) <;> simp [h]
    · obtain rfl : i = x.args.length := by omega
      rw [List.take_length] at h2
      exact ret_plain ⟨r, h1, by rw [e]; exact h2, h3⟩
end
end Go.Vx

/- Contracts: well-formed programs, the reference's side; goals counted. -/
namespace Go.Vx
open Go.Proofs Classical
theorem Gl.vars_eq (g : Gl) : g.vars = g.tvars ++ g.goals.flatMap Gl.vars := by
  rw [Gl.vars, Gl.all_eq, List.flatMap_cons, List.flatMap_assoc]
  rfl
section
variable {μ : Mem}
theorem l13Vars_spec : ∀ (g : Gl) {μ : Mem} {l : List Int} {w v : Value}, g.Sh → RepV μ g.d w → RepV μ (.sl 1 (l.map D.i)) v → VL l → Spec Tryz.prog 289 [w, v] μ fun v μ' => VarsS μ' l g.vars v :=
  Gl.ind fun g ih μ l w v hS hw hv hb => by
    have hv_ := Gl.inv hw
    obtain ⟨p, rfl, hts, hgs⟩ := hv_
    have hv_ := lift_ok hS.top.tm
    obtain ⟨xs, hxs, hxo⟩ := hv_
    have htv : g.tvars = xs.flatMap T.vars := by rw [Gl.tvars, hxs, toTs_tm']
    rw [hxs, List.length_map] at hts ⊢
    have hn := maxLen_le hts.max
    have hn2 := maxLen_le hgs.max
    refine Spec.mk Tryz.func289 (by kernel_rfl) ?_
    intro r1
    refine loop_intro (fun p : Nat × Value × Mem => p.1 ≤ xs.length ∧ μ.Le p.2.2 ∧ VarsS p.2.2 l ((xs.take p.1).flatMap T.vars) p.2.1)
      (fun (i, v, μ') => ⟨[(1, .val v), (2, .loc 0 r1 0), (10, .val (.slice p.1.1 xs.length p.1.2)), (11, .val (.int .i64 xs.length)), (12, .val (.int .i64 i))], [(0, some (.cells r1 [.val (.int .i64 g.kind), .val (.string g.name), .val (.slice p.1.1 xs.length p.1.2), .val (.slice p.2.1 g.goals.length p.2.2)] 55))], 1, μ', Mem.nil⟩) (fun p => xs.length - p.1)
      (0, v, μ) ⟨by simp, Mem.Le.refl μ, l, hv, by simp, hb⟩ (fun (_, _, _) => ⟨rfl, rfl⟩) ⟨⟨rfl, rfl, rfl, rfl, rfl, trivial⟩, ⟨rfl, trivial⟩, rfl, rfl⟩ ?_
    rintro ⟨i, v, μ'⟩ ⟨hi, hle, r, h1, h2, h3⟩
    dsimp only at hi hle h1 h2 h3
    refine ifd (fun h => ?_) (fun h => ?_)
    · have hv_ := at_some (l := xs) (i := i) (by omega)
      obtain ⟨t, ht⟩ := hv_
      have hv_ := Tm.elem (i := i) (t := t.tm) (hts.mono hle) (by simp [ht])
      obtain ⟨ad, p3, hel, hr⟩ := hv_
      have hsucc : (xs.take (i + 1)).flatMap T.vars = (xs.take i).flatMap T.vars ++ t.vars := by
        rw [List.take_add_one, ht, Option.toList_some, List.flatMap_append]; simp
      refine elem_intro hel ?_
      intro r2
      refine call_plain (l02VarsS_spec t (hxo t (mem_at ht)).1 hr h1 h3) fun v' μ'' hle2 hR => ?_
      obtain ⟨q, g1, g2, g3⟩ := hR
      refine num64 (by omega) (by omega) ⟨(i + 1, v', μ''), ⟨by dsimp only; omega, hle.trans hle2, q, g1, fun y => ?_, g3⟩, by dsimp only; omega, ⟨⟨rfl, rfl, rfl, rfl, rfl, trivial⟩, ⟨rfl, trivial⟩, rfl, rfl⟩⟩
      dsimp only
      rw [g2, h2, hsucc, List.mem_append]
      constructor
      · rintro (h | h | h) <;> simp [h]
      · rintro ((h | h) | h) <;> simp [h]
    · obtain rfl : i = xs.length := by omega
      rw [List.take_length] at h2
      have hgs1 := hgs.mono hle
      refine loop_intro (fun x : Nat × Value × Mem => x.1 ≤ g.goals.length ∧ μ'.Le x.2.2 ∧ VarsS x.2.2 l (g.tvars ++ (g.goals.take x.1).flatMap Gl.vars) x.2.1)
        (fun (i, v, μ'') => ⟨[(1, .val v), (21, .val (.slice p.2.1 g.goals.length p.2.2)), (22, .val (.int .i64 g.goals.length)), (23, .val (.int .i64 i))], [], 1, μ'', Mem.nil⟩) (fun x => g.goals.length - x.1)
        (0, v, μ') ⟨by simp, Mem.Le.refl μ', r, h1, by simpa [htv] using h2, h3⟩ (fun (_, _, _) => ⟨rfl, rfl⟩) ⟨⟨rfl, rfl, rfl, rfl, trivial⟩, trivial, rfl, rfl⟩ ?_
      rintro ⟨i, v2, μ2⟩ ⟨hi, hle2, r2, k1, k2, k3⟩
      dsimp only at hi hle2 k1 k2 k3
      refine ifd (fun h => ?_) (fun h => ?_)
      · have hv_ := at_some (l := g.goals) (i := i) (by omega)
        obtain ⟨t, ht⟩ := hv_
        have hv_ := Gl.elem (hgs1.mono hle2) ht
        obtain ⟨ad, p3, hel, hr⟩ := hv_
        have hsucc : (g.goals.take (i + 1)).flatMap Gl.vars = (g.goals.take i).flatMap Gl.vars ++ t.vars := by
          rw [List.take_add_one, ht, Option.toList_some, List.flatMap_append]; simp
        refine elem_intro hel ?_
        intro r3
        refine call_plain (ih t (mem_at ht) (hS.sub t (mem_at ht)) hr k1 k3) fun v' μ3 hle3 hR => ?_
        obtain ⟨q, g1, g2, g3⟩ := hR
        refine num64 (by omega) (by omega) ⟨(i + 1, v', μ3), ⟨by dsimp only; omega, hle2.trans hle3, q, g1, fun y => ?_, g3⟩, by dsimp only; omega, ⟨⟨rfl, rfl, rfl, rfl, trivial⟩, trivial, rfl, rfl⟩⟩
        dsimp only
        rw [g2, k2, hsucc, ← List.append_assoc, List.mem_append (s := g.tvars ++ _)]
        constructor
        · rintro (h | h | h) <;> simp [h]
        · rintro ((h | h) | h) <;> simp [h]
      · obtain rfl : i = g.goals.length := by omega
        rw [List.take_length, ← Gl.vars_eq] at k2
        exact ret_plain ⟨r2, k1, k2, k3⟩
theorem VL.last {l : List Int} (h : VL l) {n x : Int} (hx : l[l.length - 1]? = some x) : (∀ y ∈ l, y < n) ↔ x < n := by
  constructor
  · intro k; exact k x (List.mem_of_getElem? hx)
  · intro k y hy
    have hv_ := List.mem_iff_getElem?.1 hy
    obtain ⟨i, hi⟩ := hv_
    have hil := (List.getElem?_eq_some_iff.1 hi).1
    rcases Nat.lt_or_ge i (l.length - 1) with h1 | h1
    · have := srt_get h.srt h1 hi hx; omega
    · obtain rfl : i = l.length - 1 := by omega
      rw [hx] at hi; cases hi; exact k
def Fits (p : Pg) (g : Gl) (n : Int) : Prop := g.Ok ∧ FitAll p g ∧ ∀ m ∈ g.vars, m < n
theorem l14Fits_spec {p : Pg} {g : Gl} {n : Int} {vp v : Value} (hp : RepV μ p.d vp) (hv : RepV μ g.d v) (hw : g.d.wd) : Spec Tryz.prog 203 [vp, v, .int .i64 n] μ fun r _ => r = .bool (decide (Fits p g n)) := by
  have hv_ := Pg.inv hp
  obtain ⟨q, rfl, hrl⟩ := hv_
  have hv_ := Gl.invV hv
  obtain ⟨q2, rfl⟩ := hv_
  refine Spec.mk Tryz.func203 (by kernel_rfl) ?_
  intro r1 r2
  refine call_gives (spec_GoalOk_spec g hv hw) ?_
  refine ifnd (fun h => ret_plain (isF fun k => h k.1)) (fun h1 => ?_)
  refine call_gives (l14Calls_spec hp g h1.1 hv) ?_
  refine ifnd (fun h => ret_plain (isF fun k => h k.2.1)) (fun h2 => ?_)
  refine call_plain (l13Vars_spec (l := []) (v := .slice none 0 0) g h1.1 hv ⟨none, 0, rfl, ⟨Nat.zero_le _, Nat.zero_le _⟩, by simp, .inl rfl⟩ ⟨List.Pairwise.nil, by simp⟩) fun v1 μ1 hle1 hR => ?_
  obtain ⟨r, g1, g2, g3⟩ := hR
  have hv_ := Rep.sl g1
  obtain ⟨b, c, rfl, hsl⟩ := hv_
  rw [List.length_map] at hsl ⊢
  have hlen := g3.len
  have hmem : ∀ x, x ∈ r ↔ x ∈ g.vars := fun x => by rw [g2]; simp
  refine ifd (fun h => ret_plain (isT ⟨h1, h2, fun m hm => ?_⟩)) (fun h => ?_)
  · have h3 : r = [] := List.eq_nil_of_length_eq_zero (by omega)
    have := (hmem m).2 hm
    rw [h3] at this; simp at this
  · have hv_ := at_some (l := r) (i := r.length - 1) (by omega)
    obtain ⟨x, hx⟩ := hv_
    have hv_ := Ints.elem hsl hx
    obtain ⟨ad, hel⟩ := hv_
    refine num_eq (x := ((r.length - 1 : Nat) : Int)) (by rw [wrap64 (by omega) (by omega)]; omega) ?_
    refine elem_intro hel ?_
    refine ret_plain (isI ⟨fun k => ⟨h1, h2, fun m hm => ((VL.last g3 hx).2 k) m ((hmem m).2 hm)⟩, fun k => (VL.last g3 hx).1 fun y hy => k.2.2 y ((hmem y).1 hy)⟩)
end
end Go.Vx

/- Contracts: well-formed programs, the reference's side; goals counted. -/
namespace Go.Vx
open Go.Proofs Classical
section
variable {μ : Mem}
theorem spec_ProgramOk_spec {p : Pg} {v : Value} (hp : RepV μ p.d v) (hw : p.d.wd) : Spec Tryz.prog 117 [v] μ fun r _ => r = .bool (decide p.Ok) := by
  have hv_ := Pg.inv hp
  obtain ⟨q, rfl, hrl⟩ := hv_
  have hws : D.wds (p.rels.map Rl.d) := by rw [Pg.d_eq] at hw; exact hw.1
  refine Spec.mk Tryz.func117 (by kernel_rfl) ?_
  intro r1
  refine ifd (fun h8 => ret_plain (isF fun h => by have := h.1; omega)) (fun h8 => ?_)
  refine loop_intro (fun x : Nat × Mem => x.1 ≤ p.rels.length ∧ μ.Le x.2 ∧ ∀ (j : Nat) (r : Rl), j < x.1 → p.rels[j]? = some r → RelOk p j r)
    (fun (i, μ') => ⟨[(1, .loc 0 r1 0), (10, .val (.slice q.1 p.rels.length q.2)), (11, .val (.int .i64 p.rels.length)), (12, .val (.int .i64 i))], [(0, some (.cells r1 [.val (.slice q.1 p.rels.length q.2)] 67))], 1, μ', Mem.nil⟩) (fun x => p.rels.length - x.1)
    (0, μ) ⟨by simp, Mem.Le.refl _, fun j r hj => by simp at hj⟩ (fun (_, _) => ⟨rfl, rfl⟩) ⟨⟨rfl, rfl, rfl, rfl, trivial⟩, ⟨rfl, trivial⟩, rfl, rfl⟩ ?_
  rintro ⟨i, μ'⟩ ⟨hi, hle, hall⟩
  dsimp only at hi hle hall
  refine ifd (fun hlt => ?_) (fun hlt => ?_)
  · have hv_ := at_some (l := p.rels) (i := i) (by omega)
    obtain ⟨x, hx⟩ := hv_
    have hv_ := Rl.elemA (hrl.mono hle) hx
    obtain ⟨ad, q2, hel, hr, hb⟩ := hv_
    have hb : RepV μ' x.body.d (.agg (x.body.cs q2).toArray) := hb
    have hxw : x.d.wd := D.wds_mem hws _ (mem_at (at_map (f := Rl.d) hx))
    rw [Rl.d_eq] at hxw
    have hnm : x.name.size ≤ maxLen := hxw.1
    have hbw : x.body.d.wd := hxw.2.2.2.1
    have bad : ¬ RelOk p i x → Value.bool false = .bool (decide p.Ok) := fun h => isF fun k => h (k.2 i x hx)
    refine elem_intro hel ?_
    intro r2
    refine call_gives (l14Find_spec (hp.mono hle)) ?_
    refine ifnd (fun h => ret_plain (bad fun k => h k.at_)) (fun g2 => ?_)
    refine call_gives (spec_IsRelName_spec _ hnm _) ?_
    refine ifnd (fun h => ret_plain (bad fun k => h k.name)) (fun g1 => ?_)
    refine call_gives (l01In_spec _ _ _ _) ?_
    refine ifnd (fun h => ret_plain (bad fun k => h ⟨k.ar0, k.ar4⟩)) (fun g3 => ?_)
    refine call_gives (l01In_spec _ _ _ _) ?_
    refine ifnd (fun h => ret_plain (bad fun k => h ⟨k.lo0, k.lo8⟩)) (fun g4 => ?_)
    refine num64 (by omega) (by omega) ?_
    refine call_plain (l14Fits_spec (hp.mono hle) hb hbw) fun v1 μ1 hle1 hR => ?_
    obtain rfl := hR
    refine ifnd (fun h => ret_plain (bad fun k => h ⟨⟨k.body, by have := k.size; omega⟩, k.calls, k.vars⟩)) (fun g5 => ?_)
    refine call_gives (spec_GoalSize_spec x.body (hb.mono hle1) hbw) ?_
    have hc : x.body.count = x.body.cnt := by rw [Gl.count, if_pos g5.1]
    refine ifd (fun h => ret_plain (bad fun k => by have := k.size; omega)) (fun g6 => ?_)
    have hok : RelOk p i x := ⟨g2, g1, by omega, by omega, by omega, by omega, g5.1.1, by omega, g5.2.2, g5.2.1⟩
    refine num64 (by omega) (by omega) ⟨(i + 1, μ1), ⟨by dsimp only; omega, hle.trans hle1, fun j r hj hr => ?_⟩, by dsimp only; omega, ⟨⟨rfl, rfl, rfl, rfl, trivial⟩, ⟨rfl, trivial⟩, rfl, rfl⟩⟩
    rcases Nat.lt_or_ge j i with h6 | h6
    · exact hall j r h6 hr
    · obtain rfl : j = i := by omega
      rw [hx] at hr; cases hr; exact hok
  · obtain rfl : i = p.rels.length := by omega
    exact ret_plain (isT ⟨by omega, fun j r hr => hall j r (List.getElem?_eq_some_iff.1 hr).1 hr⟩)
end
end Go.Vx

/- Contracts: which substitutions are fine. -/
namespace Go.Vx
open Go.Proofs Classical
/-! ### Plain -/
def bndOk (bs : List B) (b : B) : Prop := ¬ (b.to.tm.kind = 1 ∧ b.var ≤ b.to.tm.num) ∧ ∀ n ∈ b.to.vars, sub bs n = none
def substOk (l : List Bd) : Prop := valsOk l ∧ ∀ b ∈ l.map Bd.b, bndOk (l.map Bd.b) b
theorem B.bd_b (b : B) : b.bd.b = b := by
  cases b; simp [B.bd, Bd.b, T.toT_tm]
theorem B.map_b (bs : List B) : (bs.map B.bd).map Bd.b = bs := by
  rw [List.map_map]
  conv => rhs; rw [← List.map_id bs]
  exact List.map_congr_left fun b _ => B.bd_b b
/-- A fine list of bindings, as terms. -/
structure Vals (bs : List B) : Prop where
  ok : valsOk (bs.map B.bd)
theorem Vals.len {bs : List B} (h : Vals bs) : bs.length ≤ 400 := by have := h.ok.1; simpa using this
theorem Vals.srt {bs : List B} (h : Vals bs) : Srt bs := by have := h.ok.srt; rwa [B.map_b] at this
theorem Vals.tok {bs : List B} (h : Vals bs) : ∀ b ∈ bs, b.to.ok := by have := h.ok.lift.2; rwa [B.map_b] at this
theorem Vals.var {bs : List B} (h : Vals bs) : ∀ b ∈ bs, 0 ≤ b.var ∧ b.var ≤ 100000 := fun b hb => by
  have hv_ := List.mem_iff_getElem?.1 hb
  obtain ⟨i, hi⟩ := hv_
  exact (h.ok.2 i b.bd (by simp [hi])).1
theorem valsOk.vals {l : List Bd} (h : valsOk l) : ∃ bs : List B, l = bs.map B.bd ∧ Vals bs := ⟨l.map Bd.b, h.lift.1.symm, ⟨by rw [h.lift.1]; exact h⟩⟩
structure Subst (bs : List B) : Prop where
  vals : Vals bs
  bnd : ∀ b ∈ bs, bndOk bs b
theorem substOk_iff (bs : List B) : substOk (bs.map B.bd) ↔ Subst bs := by
  unfold substOk
  rw [B.map_b]
  exact ⟨fun h => ⟨⟨h.1⟩, h.2⟩, fun h => ⟨h.1.1, h.2⟩⟩
theorem substOk.subst {l : List Bd} (h : substOk l) : ∃ bs : List B, l = bs.map B.bd ∧ Subst bs := by
  obtain ⟨bs, rfl, _⟩ := h.1.vals
  exact ⟨bs, rfl, (substOk_iff bs).1 h⟩
section
variable {μ : Mem}
/-- A cell of one's own beside other memory. -/
def boolOn (H : Mem) (r : Nat) (b : Bool) : Mem := H.set r (.cells #[.bool b] 4 (0, 0))
end
end Go.Vx

/- Contracts: programs without negation. -/
namespace Go.Vx
open Go.Proofs Classical
/-- No negation in a goal. -/
def Gl.Pos (g : Gl) : Prop := ∀ x ∈ g.all, x.kind ≠ 10
theorem Gl.pos_eq (g : Gl) : g.Pos ↔ g.kind ≠ 10 ∧ ∀ x ∈ g.goals, x.Pos := by
  unfold Gl.Pos
  rw [Gl.all_eq]
  constructor
  · exact fun h => ⟨h g (by simp), fun x hx y hy => h y (List.mem_cons_of_mem _ (List.mem_flatMap.2 ⟨x, hx, hy⟩))⟩
  · rintro ⟨h1, h2⟩ x hx
    rcases List.mem_cons.1 hx with rfl | hx
    · exact h1
    · have hv_ := List.mem_flatMap.1 hx
      obtain ⟨y, hy, hx⟩ := hv_
      exact h2 y hy x hx
def Pg.Pos (p : Pg) : Prop := p.Ok ∧ ∀ r ∈ p.rels, r.body.Pos
section
variable {μ : Mem}
theorem l14Only_spec : ∀ (g : Gl) {v : Value}, RepV μ g.d v → Gives Tryz.prog 300 [v, .bool false] μ (.bool (decide g.Pos)) :=
  Gl.ind fun g ih v hv => by
    have hv_ := Gl.inv hv
    obtain ⟨p, rfl, hts, hgs⟩ := hv_
    have hn := maxLen_le hgs.max
    refine Spec.mk Tryz.func300 (by kernel_rfl) ?_
    intro r
    refine loop_intro (fun i : Nat => i ≤ g.goals.length ∧ ∀ (j : Nat) x, j < i → g.goals[j]? = some x → x.Pos)
      (fun i => ⟨[(1, .val (.bool false)), (2, .loc 0 r 0), (8, .val (.slice p.2.1 g.goals.length p.2.2)), (9, .val (.int .i64 g.goals.length)), (10, .val (.int .i64 i))], [(0, some (.cells r [.val (.int .i64 g.kind), .val (.string g.name), .val (.slice p.1.1 g.terms.length p.1.2), .val (.slice p.2.1 g.goals.length p.2.2)] 55))], 1, μ, Mem.nil⟩) (fun i => g.goals.length - i)
      0 ⟨Nat.zero_le _, fun j x h => by omega⟩ (fun _ => ⟨rfl, rfl⟩) ⟨⟨rfl, rfl, rfl, rfl, rfl, trivial⟩, ⟨rfl, trivial⟩, rfl, rfl⟩ ?_
    rintro i ⟨hi, hall⟩
    refine ifd (fun hlt => ?_) (fun hlt => ?_)
    · have hv_ := at_some (l := g.goals) (i := i) (by omega)
      obtain ⟨t, ht⟩ := hv_
      have hv_ := Gl.elem hgs ht
      obtain ⟨ad, p3, hel, hr⟩ := hv_
      refine elem_intro hel ?_
      intro r2
      refine call_gives (ih t (mem_at ht) hr) ?_
      refine ifnd (fun h => ret_gives ?_ rfl) (fun h => ?_)
      · rw [decide_eq_false fun k => h (((Gl.pos_eq g).1 k).2 t (mem_at ht))]
      · refine num64 (by omega) (by omega) ⟨i + 1, ⟨by omega, fun j y hj hy => ?_⟩, by omega, ⟨⟨rfl, rfl, rfl, rfl, rfl, trivial⟩, ⟨rfl, trivial⟩, rfl, rfl⟩⟩
        rcases Nat.lt_or_ge j i with h6 | h6
        · exact hall j y h6 hy
        · obtain rfl : j = i := by omega
          rw [ht] at hy; cases hy; exact h
    · obtain rfl : i = g.goals.length := by omega
      have hsub : ∀ x ∈ g.goals, x.Pos := fun x hx => by
        have hv_ := List.mem_iff_getElem?.1 hx
        obtain ⟨j, hj⟩ := hv_
        exact hall j x (List.getElem?_eq_some_iff.1 hj).1 hj
      refine ifnd (fun h => ?_) (fun h => ?_)
      · refine if_intro (fun h => nomatch h) (fun _ => ?_)
        exact ret_gives (by rw [decide_eq_true ((Gl.pos_eq g).2 ⟨h, hsub⟩)]; rfl) rfl
      · exact ret_gives (by rw [decide_eq_false fun k => ((Gl.pos_eq g).1 k).1 h]) rfl
theorem l14All_spec {p : Pg} {v : Value} (hp : RepV μ p.d v) (hw : p.d.wd) : Spec Tryz.prog 228 [v, .bool false] μ fun r _ => r = .bool (decide p.Pos) := by
  have hv_ := Pg.inv hp
  obtain ⟨q, rfl, hrl⟩ := hv_
  refine Spec.mk Tryz.func228 (by kernel_rfl) ?_
  intro r1
  refine call_plain (spec_ProgramOk_spec hp hw) fun v1 μ1 hle1 hR => ?_
  obtain rfl := hR
  refine ifnd (fun h => ret_plain (isF fun k => h k.1)) (fun hok => ?_)
  have hn := hok.1
  refine loop_intro (fun i : Nat => i ≤ p.rels.length ∧ ∀ (j : Nat) x, j < i → p.rels[j]? = some x → x.body.Pos)
    (fun i => ⟨[(1, .val (.bool false)), (11, .val (.slice q.1 p.rels.length q.2)), (12, .val (.int .i64 p.rels.length)), (13, .val (.int .i64 i))], [], 1, μ1, Mem.nil⟩) (fun i => p.rels.length - i)
    0 ⟨Nat.zero_le _, fun j x h => by omega⟩ (fun _ => ⟨rfl, rfl⟩) ⟨⟨rfl, rfl, rfl, rfl, trivial⟩, trivial, rfl, rfl⟩ ?_
  rintro i ⟨hi, hall⟩
  refine ifd (fun hlt => ?_) (fun hlt => ?_)
  · have hv_ := at_some (l := p.rels) (i := i) (by omega)
    obtain ⟨x, hx⟩ := hv_
    have hv_ := Rl.elemA (hrl.mono hle1) hx
    obtain ⟨ad, q2, hel, hr, hb⟩ := hv_
    have hb : RepV μ1 x.body.d (.agg (x.body.cs q2).toArray) := hb
    refine elem_intro hel ?_
    intro r2
    refine call_gives (l14Only_spec x.body hb) ?_
    refine ifnd (fun h => ret_plain (isF fun k => h (k.2 x (mem_at hx)))) (fun h => ?_)
    refine num64 (by omega) (by omega) ⟨i + 1, ⟨by omega, fun j y hj hy => ?_⟩, by omega, ⟨⟨rfl, rfl, rfl, rfl, trivial⟩, trivial, rfl, rfl⟩⟩
    rcases Nat.lt_or_ge j i with h6 | h6
    · exact hall j y h6 hy
    · obtain rfl : j = i := by omega
      rw [hx] at hy; cases hy; exact h
  · obtain rfl : i = p.rels.length := by omega
    exact ret_plain (isT ⟨hok, fun x hx => by
      have hv_ := List.mem_iff_getElem?.1 hx
      obtain ⟨j, hj⟩ := hv_
      exact hall j x (List.getElem?_eq_some_iff.1 hj).1 hj⟩)
theorem spec_IsPositive_spec {p : Pg} {v : Value} (hp : RepV μ p.d v) (hw : p.d.wd) : Spec Tryz.prog 158 [v] μ fun r _ => r = .bool (decide p.Pos) := by
  have hv_ := Pg.inv hp
  obtain ⟨q, rfl, hrl⟩ := hv_
  refine Spec.mk Tryz.func158 (by kernel_rfl) ?_
  intro r1
  refine call_plain (l14All_spec hp hw) fun v1 μ1 hle1 hR => ?_
  obtain rfl := hR
  exact ret_plain rfl
/-! ### The program's side -/
theorem negative1_spec (n : Int) : Gives Tryz.prog 339 [.int .i64 n] μ (.bool (decide (n = 10))) := by
  refine Spec.mk Tryz.func339 (by kernel_rfl) ?_
  exact ret_gives rfl rfl
theorem hasKind1_spec {H : Mem} {r3 : Nat} (r : Nat) (b : Bool) {g : Gl} {v : Value} (hv : RepV μ g.d v) (hne : r3 ≠ r) (h3 : H r3 = some (.cells #[.func (.func 339) #[] #[]] 238 (0, 0))) :
    SpecH Tryz.prog 303 [v, .pointer (some ⟨r, 0, none⟩), .pointer (some ⟨r3, 0, none⟩)] μ (boolOn H r b) fun r' μ' h' => r' = .tuple #[] ∧ μ' = μ ∧ h' = boolOn H r (b || decide (g.kind = 10)) := by
  have hv_ := Gl.inv hv
  obtain ⟨p, rfl, -, -⟩ := hv_
  refine SpecH.mk [] Tryz.func303 (by kernel_rfl) ?_
  intro r0
  refine own_intro [.bool b] rfl (box_at (set_self _ _ _)) ?_
  refine if_intro (fun hb => ?_) (fun hb => ?_)
  · refine sto_intro (h := boolOn H r b) (a := ⟨r, 0, none⟩) [.bool b] 4 (set_self _ _ _) rfl (Nat.le_refl _) ?_
    exact ret_plain ⟨rfl, rfl, by rw [hb]; exact Mem.set_set _ _ _ _⟩
  · refine own_intro [.func (.func 339) #[] #[]] rfl (box_at ((Mem.set_ne hne).trans h3)) ?_
    refine call_gives (negative1_spec _) ?_
    refine sto_intro (h := boolOn H r b) (a := ⟨r, 0, none⟩) [.bool b] 4 (set_self _ _ _) rfl (Nat.le_refl _) ?_
    exact ret_plain ⟨rfl, rfl, by rw [hb]; exact Mem.set_set _ _ _ _⟩
theorem or_fold : ∀ (l : List Gl) (b : Bool), l.foldl (fun b g => b || decide (g.kind = 10)) b = (b || !decide (∀ x ∈ l, x.kind ≠ 10))
  | [], b => by simp
  | a :: l, b => by
    rw [List.foldl_cons, or_fold l]
    by_cases h : a.kind = 10 <;> cases b <;> simp [h]
theorem hasKind_spec {g : Gl} {v : Value} (hv : RepV μ g.d v) : Spec Tryz.prog 233 [v, .func (.func 339) #[] #[]] μ fun r μ' => r = .bool (!decide g.Pos) ∧ μ' = μ := by
  have hv_ := Gl.inv hv
  obtain ⟨p, rfl, -, -⟩ := hv_
  refine Spec.mkO [3, 5] Tryz.func233 (by kernel_rfl) ?_
  intro r1 r3 hm3 ho3 r5 hm5 ho5
  have hne : r3 ≠ r5 := fun e => by
    subst e
    have h : Mem.set Mem.nil r3 _ r3 = none := ho5
    rw [Mem.set_at] at h; cases h
  refine sto_intro [.bool false] 4 (Mem.set_at _ _ _) rfl (Nat.le_refl _) ?_
  refine call_own (R := fun r μ' h' => r = .tuple #[] ∧ μ' = μ ∧ h' = boolOn (Mem.nil.set r3 (.cells #[.func (.func 339) #[] #[]] 238 (0, 0))) r5 (g.all.foldl (fun b g => b || decide (g.kind = 10)) false)) ?_ fun v μ' h' hle hap hR => ?_
  · have := eachGoal_rel (μ := μ) (fun b h => h = boolOn (Mem.nil.set r3 (.cells #[.func (.func 339) #[] #[]] 238 (0, 0))) r5 b) (fun b g => b || decide (g.kind = 10)) (fun _ => True) (k := 303) (caps := [.pointer (some ⟨r5, 0, none⟩), .pointer (some ⟨r3, 0, none⟩)])
      (fun s h x v _ hx hj => by subst hj; exact hasKind1_spec r5 s hx hne (Mem.set_at _ _ _)) g false _ hv (fun _ _ => trivial) rfl
    have e : ∀ X : Mem, ((X.set r5 (.cells #[.bool false] 4 (0, 0))).set r5 (.cells #[.bool false] 4 (0, 0))) = boolOn X r5 false := fun X => Mem.set_set _ _ _ _
    rw [← e] at this
    exact this
  obtain ⟨rfl, e4, rfl⟩ := hR
  obtain rfl := e4.symm
  rw [or_fold, Bool.false_or]
  refine own_intro [.bool (!decide (∀ x ∈ g.all, x.kind ≠ 10))] rfl (box_at (set_self _ _ _)) ?_
  exact ret_plain ⟨congrArg (fun b => Value.bool (!b)) (decide_eq_decide.2 Iff.rfl), rfl⟩
theorem negative_spec {g : Gl} {v : Value} (hv : RepV μ g.d v) : Spec Tryz.prog 328 [v] μ fun r μ' => r = .bool (!decide g.Pos) ∧ μ' = μ := by
  have hv0 := hv
  have hv_ := Gl.inv hv
  obtain ⟨p, rfl, -, -⟩ := hv_
  refine Spec.mk Tryz.func328 (by kernel_rfl) ?_
  intro r1
  refine call_plain (hasKind_spec hv0) fun v1 μ1 hle1 hR => ?_
  obtain ⟨rfl, e⟩ := hR
  obtain rfl := e.symm
  exact ret_plain ⟨rfl, rfl⟩
theorem positive_spec {p : Pg} {v : Value} (hp : RepV μ p.d v) : Spec Tryz.prog 296 [v] μ fun r μ' => r = .bool (decide (∀ r ∈ p.rels, r.body.Pos)) ∧ μ' = μ := by
  have hv_ := Pg.inv hp
  obtain ⟨q, rfl, hrl⟩ := hv_
  have hn := maxLen_le hrl.max
  refine Spec.mk Tryz.func296 (by kernel_rfl) ?_
  intro r1
  refine loop_intro (fun i : Nat => i ≤ p.rels.length ∧ ∀ (j : Nat) x, j < i → p.rels[j]? = some x → x.body.Pos)
    (fun i => ⟨[(6, .val (.slice q.1 p.rels.length q.2)), (7, .val (.int .i64 p.rels.length)), (8, .val (.int .i64 i))], [], 1, μ, Mem.nil⟩) (fun i => p.rels.length - i)
    0 ⟨Nat.zero_le _, fun j x h => by omega⟩ (fun _ => ⟨rfl, rfl⟩) ⟨⟨rfl, rfl, rfl, trivial⟩, trivial, rfl, rfl⟩ ?_
  rintro i ⟨hi, hall⟩
  refine ifd (fun hlt => ?_) (fun hlt => ?_)
  · have hv_ := at_some (l := p.rels) (i := i) (by omega)
    obtain ⟨x, hx⟩ := hv_
    have hv_ := Rl.elemA hrl hx
    obtain ⟨ad, q2, hel, hr, hb⟩ := hv_
    have hb : RepV μ x.body.d (.agg (x.body.cs q2).toArray) := hb
    refine elem_intro hel ?_
    intro r2
    refine call_plain (negative_spec hb) fun v1 μ1 hle1 hR => ?_
    obtain ⟨rfl, e⟩ := hR
    obtain rfl := e.symm
    refine if_intro (fun h => ret_plain ⟨isF fun k => ?_, rfl⟩) (fun h => ?_)
    · have := k x (mem_at hx); simp [this] at h
    · have hpos : x.body.Pos := by simpa using h
      refine num64 (by omega) (by omega) ⟨i + 1, ⟨by omega, fun j y hj hy => ?_⟩, by omega, ⟨⟨rfl, rfl, rfl, trivial⟩, trivial, rfl, rfl⟩⟩
      rcases Nat.lt_or_ge j i with h6 | h6
      · exact hall j y h6 hy
      · obtain rfl : j = i := by omega
        rw [hx] at hy; cases hy; exact hpos
  · obtain rfl : i = p.rels.length := by omega
    exact ret_plain ⟨isT fun x hx => by
      have hv_ := List.mem_iff_getElem?.1 hx
      obtain ⟨j, hj⟩ := hv_
      exact hall j x (List.getElem?_eq_some_iff.1 hj).1 hj, rfl⟩
theorem impl_IsPositive_spec {p : Pg} {v : Value} (hp : RepV μ p.d v) : Spec Tryz.prog 215 [v] μ fun r _ => r = .bool (decide p.Pos) := by
  have hv_ := Pg.inv hp
  obtain ⟨q, rfl, hrl⟩ := hv_
  refine Spec.mk Tryz.func215 (by kernel_rfl) ?_
  intro r1
  refine call_plain (impl_ProgramOk_spec hp) fun v1 μ1 hle1 hR => ?_
  obtain rfl := hR
  refine ifd (fun hok => ?_) (fun hok => ret_plain (isF fun k => hok k.1))
  refine call_plain (positive_spec (hp.mono hle1)) fun v2 μ2 hle2 hR => ?_
  obtain ⟨rfl, e⟩ := hR
  refine ret_plain ?_
  by_cases h : ∀ r ∈ p.rels, r.body.Pos
  · rw [decide_eq_true h, decide_eq_true (show p.Pos from ⟨hok, h⟩)]
  · rw [decide_eq_false h, decide_eq_false fun k : p.Pos => h k.2]
end
end Go.Vx

/- Contracts: what texts on substitutions share: rows out of slices, terms under a substitution, a bound variable replaced. -/
namespace Go.Vx
open Go.Proofs Classical
section
variable {μ : Mem}
theorem Rep.srcAll {es n cap : Nat} {base : Option Addr} {ds : List D} (h : RepV μ (.sl es ds) (.slice base n cap)) : ∃ vs, Rows μ es ds vs ∧ vs.length = n ∧ SrcAt μ base n es vs := by
  have hv_ := Rep.src h
  obtain ⟨vs, hrows, hvl, hcap, hsrc⟩ := hv_
  have := hsrc 0 n (Nat.zero_le _) (Nat.le_refl _)
  have e1 : (if cap = 0 then base else base.map (·.add (0 * es))) = base := by
    split
    · rfl
    · cases base with
      | none => rfl
      | some a => simp [Addr.add]
  rw [e1, Nat.sub_zero, List.drop_zero, List.take_of_length_le (by omega)] at this
  exact ⟨vs, hrows, hvl, this⟩
end
end Go.Vx

/- Contracts: the clauses of a goal, the reference's side. -/
namespace Go.Vx
open Go.Proofs Classical
/-! ### Plain -/
def prodC (a l : List (List Gl)) : List (List Gl) := a.flatMap fun x => l.map fun y => x ++ y
mutual
noncomputable def Gl.cl : Gl → Option (List (List Gl))
  | .mk k s ts gs => if k = 0 then some [[]] else if k = 1 then some [] else if k = 8 then Gl.clOr gs [] else if k = 7 then Gl.clAnd gs [[]] else some [[.mk k s ts gs]]
noncomputable def Gl.clOr : List Gl → List (List Gl) → Option (List (List Gl))
  | [], acc => some acc
  | g :: r, acc => (g.cl).bind fun l => if (acc ++ l).length ≤ 64 then Gl.clOr r (acc ++ l) else none
noncomputable def Gl.clAnd : List Gl → List (List Gl) → Option (List (List Gl))
  | [], acc => some acc
  | g :: r, acc => (g.cl).bind fun l => if (prodC acc l).length ≤ 64 then Gl.clAnd r (prodC acc l) else none
end
theorem Gl.cl_eq (g : Gl) : g.cl = if g.kind = 0 then some [[]] else if g.kind = 1 then some [] else if g.kind = 8 then Gl.clOr g.goals [] else if g.kind = 7 then Gl.clAnd g.goals [[]] else some [[g]] := by
  cases g; rw [Gl.cl]; rfl
theorem prodC_len (a l : List (List Gl)) : (prodC a l).length = a.length * l.length := by
  unfold prodC
  induction a with
  | nil => simp
  | cons x a ih => rw [List.flatMap_cons, List.length_append, ih, List.length_map, List.length_cons, Nat.succ_mul]; omega
theorem prodC_mem {a l : List (List Gl)} {z : List Gl} (h : z ∈ prodC a l) : ∃ x ∈ a, ∃ y ∈ l, z = x ++ y := by
  have hv_ := List.mem_flatMap.1 h
  obtain ⟨x, hx, h⟩ := hv_
  have hv_ := List.mem_map.1 h
  obtain ⟨y, hy, rfl⟩ := hv_
  exact ⟨x, hx, y, hy, rfl⟩
theorem prodC_step {a l : List (List Gl)} {j : Nat} {x : List Gl} (h : a[j]? = some x) : prodC (a.take (j + 1)) l = prodC (a.take j) l ++ l.map fun y => x ++ y := by
  rw [prodC, List.take_add_one, h, Option.toList_some, List.flatMap_append]
  simp [prodC]
/-- A clause as data. -/
def csD (c : List Gl) : D := .sl 4 (c.map Gl.d)
section
variable {μ : Mem}
abbrev Cls (μ : Mem) (L : List (List Gl)) (v : Value) : Prop := RepV μ (.sl 1 (L.map csD)) v
theorem csD_inv {c : List Gl} {v : Value} (h : RepV μ (csD c) v) : ∃ p : Option Addr × Nat, v = .slice p.1 c.length p.2 := by
  have hv_ := Rep.sl (xs := c.map Gl.d) h
  obtain ⟨b, k, rfl, _⟩ := hv_
  exact ⟨(b, k), by rw [List.length_map]⟩
theorem cls_elem {L : List (List Gl)} {base : Option Addr} {n : Nat} (h : Sl μ 1 base n (L.map csD)) {i : Nat} {c : List Gl} (hc : L[i]? = some c) :
    ∃ ad, ∃ p : Option Addr × Nat, ElemAt μ base n 1 i ad [.slice p.1 c.length p.2] ∧ RepV μ (csD c) (.slice p.1 c.length p.2) := by
  have hv_ := h.get i (csD c) (by simp [hc])
  obtain ⟨ad, cs, h1, h2⟩ := hv_
  have h3 : Rep μ (.sl 4 (c.map Gl.d)) cs := h2
  have hl := Rep.len _ _ h3
  match cs, hl with
  | [v], _ =>
    have hv_ := csD_inv (c := c) h3
    obtain ⟨p, rfl⟩ := hv_
    exact ⟨ad, p, h1, h3⟩
theorem Cls.sl {L : List (List Gl)} {b : Option Addr} {n c : Nat} (h : Cls μ L (.slice b n c)) : Sl μ 1 b L.length (L.map csD) ∧ n = L.length := by
  have hv_ := Rep.sl h
  obtain ⟨b', c', e1, hs⟩ := hv_
  have hv_ := Value.slice.inj e1
  obtain ⟨rfl, e2, _⟩ := hv_
  rw [List.length_map] at hs e2
  exact ⟨hs, e2⟩
theorem Cls.inv {L : List (List Gl)} {v : Value} (h : Cls μ L v) : ∃ p : Option Addr × Nat, v = .slice p.1 L.length p.2 := by
  have hv_ := Rep.sl h
  obtain ⟨b, k, rfl, _⟩ := hv_
  exact ⟨(b, k), by rw [List.length_map]⟩
theorem csD_src {c : List Gl} {p : Option Addr × Nat} (h : RepV μ (csD c) (.slice p.1 c.length p.2)) : ∃ vs, Rows μ 4 (c.map Gl.d) vs ∧ vs.length = c.length ∧ SrcAt μ p.1 c.length 4 vs := Rep.srcAll h
/-- What the reference answers: the clauses, or too many of something. -/
structure ClsOk (μ : Mem) (g : Gl) (v : Value) (L : List (List Gl)) : Prop where
  rep : Cls μ L v
  cl : g.cl = if L.length ≤ 64 then some L else none
  len : ∀ c ∈ L, c.length ≤ g.cnt
  max : L.length ≤ 4096
set_option maxHeartbeats 8000000 in
theorem l16Clauses_spec : ∀ (g : Gl) {μ : Mem} {v : Value}, RepV μ g.d v → g.Sh → g.cnt ≤ 80 → Spec Tryz.prog 219 [v] μ fun v μ' => ∃ L, ClsOk μ' g v L :=
  Gl.ind fun g ih μ v hv hS hcnt => by
    have hv0 := hv
    have hv_ := Gl.inv hv
    obtain ⟨p, rfl, hts, hgs⟩ := hv_
    have hg8 := hS.top.gl
    have hce := Gl.cnt_eq1 g
    refine Spec.mk Tryz.func219 (by kernel_rfl) ?_
    intro r1 r15
    refine ifd (fun h0 => ?_) (fun h0 => ?_)
    · intro r20 μ1 hle1 hno1 hat1 r21
      refine ret_frz [3] fun μ2 hle2 hno2 hat2 => .inl ⟨[[]], ?_, ?_, ?_, ?_⟩
      · exact Rows.sl hat2 (Rows.one (d := csD []) ((Rows.sl (μ := μ1) (ds := []) hat1 .nil (Nat.zero_le _)).mono hle2) rfl) (show 1 ≤ maxLen by decide)
      · rw [Gl.cl_eq, if_pos h0]; rfl
      · simp
      · simp
    refine ifd (fun h1 => ?_) (fun h1 => ?_)
    · refine ret_frz [1] fun μ2 hle2 hno2 hat2 => .inl ⟨[], ?_, ?_, ?_, ?_⟩
      · exact Rows.sl hat2 .nil (Nat.zero_le _)
      · rw [Gl.cl_eq, if_neg h0, if_pos h1]; rfl
      · simp
      · simp
    refine ifd (fun h8 => ?_) (fun h8 => ?_)
    · have hcl : g.cl = Gl.clOr g.goals [] := by rw [Gl.cl_eq, if_neg h0, if_neg h1, if_pos h8]
      refine loop_intro (fun q : Nat × List (List Gl) × Option Nat × Nat × List Value × Mem => q.1 ≤ g.goals.length ∧ μ.Le q.2.2.2.2.2 ∧ Rows q.2.2.2.2.2 1 (q.2.1.map csD) q.2.2.2.2.1 ∧ g.cl = (if q.2.1.length ≤ 64 then Gl.clOr (g.goals.drop q.1) q.2.1 else none) ∧ (∀ c ∈ q.2.1, c.length ≤ Gl.cnts (g.goals.take q.1)) ∧ q.2.1.length ≤ 64 * q.1)
        (fun (i, acc, b, c, ys, μ') => ⟨[(3, .row 1 b ys.length c), (28, .val (.slice p.2.1 g.goals.length p.2.2)), (29, .val (.int .i64 g.goals.length)), (30, .val (.int .i64 i))], [(1, some (.row b c 53 1 ys))], 2, μ', Mem.nil⟩) (fun q => g.goals.length - q.1)
        (0, [], some r15, 0, [], μ) ⟨Nat.zero_le _, Mem.Le.refl _, .nil, by rw [hcl]; rfl, by simp, by simp⟩ (fun (_, _, _, _, _, _) => ⟨rfl, rfl⟩) ⟨⟨rfl, rfl, rfl, rfl, trivial⟩, ⟨rfl, trivial⟩, rfl, rfl⟩ ?_
      rintro ⟨i, acc, b, c, ys, μ'⟩ ⟨hi, hle, hrows, hJ, hlen, hmax⟩
      dsimp only at hi hle hrows hJ hlen hmax
      have hyl := hrows.len
      rw [List.length_map] at hyl
      refine ifd (fun hlt => ?_) (fun hlt => ?_)
      · have hv_ := at_some (l := g.goals) (i := i) (by omega)
        obtain ⟨x, hx⟩ := hv_
        have hv_ := Gl.elem (hgs.mono hle) hx
        obtain ⟨ad, q, hel, hr⟩ := hv_
        have hxc := Gl.cnts_take hx
        have hxl := Gl.cnts_le g.goals (i + 1)
        refine elem_intro hel ?_
        intro r5
        refine call_plain (ih x (mem_at hx) hr (hS.sub x (mem_at hx)) (by omega)) fun v1 μ1 hle1 hR => ?_
        obtain ⟨L, hL⟩ := hR
        obtain ⟨pv, rfl⟩ := hL.rep.inv
        have hv_ := Rep.srcAll hL.rep
        obtain ⟨vs, hvr, hvl, hsrc⟩ := hv_
        have hLm := hL.max
        rw [drop_at hx, Gl.clOr, hL.cl] at hJ
        refine src_intro vs hsrc ?_
        refine grow_intro ?_ ?_ fun b9 c9 _ => ?_
        · show (ys.length + vs.length) * 24 ≤ _; omega
        · exact Nat.le_trans (m := 100000000) (show ys.length + vs.length ≤ _ by omega) (by decide)
        refine ifd (fun h64 => ?_) (fun h64 => ?_)
        · refine ret_plain ⟨L, hL.rep, ?_, fun c hc => Nat.le_trans (hL.len c hc) (by omega), hLm⟩
          rw [if_neg (show ¬ L.length ≤ 64 by omega)] at hJ ⊢
          rw [hJ]
          split <;> rfl
        · rw [if_pos (show L.length ≤ 64 by omega), Option.bind_some] at hJ
          refine num64 (by omega) (by omega) ⟨(i + 1, acc ++ L, b9, c9, _, μ1), ⟨by dsimp only; omega, hle.trans hle1, ?_, ?_, ?_, ?_⟩, by dsimp only; omega, ⟨⟨rfl, rfl, rfl, rfl, trivial⟩, ⟨rfl, trivial⟩, rfl, rfl⟩⟩
          · dsimp only
            rw [List.map_append]
            exact (hrows.mono hle1).append hvr
          · dsimp only
            rw [hJ]
            by_cases ha : acc.length ≤ 64
            · rw [if_pos ha]
            · rw [if_neg ha, if_neg (by rw [List.length_append]; omega)]
          · dsimp only
            intro c hc
            rcases List.mem_append.1 hc with hc | hc
            · have := hlen c hc; omega
            · have := hL.len c hc; omega
          · dsimp only
            rw [List.length_append]; omega
      · obtain rfl : i = g.goals.length := by omega
        rw [List.drop_length, Gl.clOr] at hJ
        rw [List.take_length] at hlen
        refine ret_frz [1] fun μ2 hle2 hno2 hat2 => .inl ⟨acc, ?_, hJ, fun c hc => by have := hlen c hc; omega, by omega⟩
        exact Rows.sl hat2 (hrows.mono hle2) (Nat.le_trans (m := 100000000) (by omega) (by decide))
    refine ifd (fun h7 => ?_) (fun h7 => ?_)
    rotate_left
    · intro r96 μ1 hle1 hno1 hat1 r97
      refine grow_intro ?_ ?_ fun b9 c9 _ => ?_
      · show (0 + 1) * 24 ≤ _; decide
      · show 0 + 1 ≤ maxLen; decide
      refine ret_frz [1] fun μ2 hle2 hno2 hat2 => .inl ⟨[[g]], ?_, ?_, ?_, ?_⟩
      · refine Rows.sl hat2 (Rows.one (d := csD [g]) ((Rows.sl (μ := μ1) (ds := [g.d]) hat1 (Rows.one (hv0.mono hle1) (Gl.d_n g)) (show 1 ≤ maxLen by decide)).mono hle2) rfl) (show 1 ≤ maxLen by decide)
      · rw [Gl.cl_eq, if_neg h0, if_neg h1, if_neg h8, if_neg h7]; rfl
      · intro c hc
        rw [List.mem_singleton.1 hc]
        have := g.cnt_pos
        simpa using this
      · simp
    have hcl : g.cl = Gl.clAnd g.goals [[]] := by rw [Gl.cl_eq, if_neg h0, if_neg h1, if_neg h8, if_pos h7]
    intro r48 μ1 hle1 hno1 hat1 r49
    refine grow_intro ?_ ?_ fun b9 c9 _ => ?_
    · show (0 + 1) * 24 ≤ _; decide
    · show 0 + 1 ≤ maxLen; decide
    refine loop_frz (fun q : Nat × List (List Gl) × Option Addr × Nat × Mem => q.1 ≤ g.goals.length ∧ μ.Le q.2.2.2.2 ∧ Cls q.2.2.2.2 q.2.1 (.slice q.2.2.1 q.2.1.length q.2.2.2.1) ∧ g.cl = Gl.clAnd (g.goals.drop q.1) q.2.1 ∧ (∀ c ∈ q.2.1, c.length ≤ Gl.cnts (g.goals.take q.1)) ∧ q.2.1.length ≤ 64)
      (fun (i, acc, b, c, μ') => ⟨[(3, .val (.slice b acc.length c)), (52, .val (.slice p.2.1 g.goals.length p.2.2)), (53, .val (.int .i64 g.goals.length)), (54, .val (.int .i64 i))], [], 0, μ', Mem.nil⟩) (fun q => g.goals.length - q.1) [1]
      (fun (_, _, _, _, _) => ⟨rfl, rfl⟩) (fun μ2 hle2 hno2 hat2 => ⟨(0, [[]], b9.map (fun r => ⟨r, 0, none⟩), c9, μ2), ⟨Nat.zero_le _, hle1.trans hle2, Rows.sl hat2 (Rows.one (d := csD []) ((Rows.sl (μ := μ1) (ds := []) hat1 .nil (Nat.zero_le _)).mono hle2) rfl) (show 1 ≤ maxLen by decide), hcl, by simp, by simp⟩, ⟨rfl, rfl, rfl, rfl, trivial⟩, trivial, rfl, rfl⟩) ?_
    rintro ⟨i, acc, b, c, μ'⟩ ⟨hi, hle, hacc, hJ, hlen, hmax⟩
    dsimp only at hi hle hacc hJ hlen hmax
    refine ifd (fun hlt => ?_) (fun hlt => ?_)
    rotate_left
    · obtain rfl : i = g.goals.length := by omega
      rw [List.drop_length, Gl.clAnd] at hJ
      rw [List.take_length] at hlen
      exact ret_plain ⟨acc, hacc, by rw [hJ, if_pos hmax], fun c hc => by have := hlen c hc; omega, by omega⟩
    have hv_ := at_some (l := g.goals) (i := i) (by omega)
    obtain ⟨x, hx⟩ := hv_
    have hv_ := Gl.elem (hgs.mono hle) hx
    obtain ⟨ad, q, hel, hr⟩ := hv_
    have hxc := Gl.cnts_take hx
    have hxl := Gl.cnts_le g.goals (i + 1)
    refine elem_intro hel ?_
    intro r8
    refine call_plain (ih x (mem_at hx) hr (hS.sub x (mem_at hx)) (by omega)) fun v3 μ3 hle3 hR => ?_
    obtain ⟨L, hL⟩ := hR
    obtain ⟨pv, rfl⟩ := hL.rep.inv
    have hLm := hL.max
    rw [drop_at hx, Gl.clAnd, hL.cl] at hJ
    refine ifd (fun h64 => ?_) (fun h64 => ?_)
    · refine ret_plain ⟨L, hL.rep, ?_, fun c hc => Nat.le_trans (hL.len c hc) (by omega), hLm⟩
      rw [if_neg (show ¬ L.length ≤ 64 by omega)] at hJ ⊢
      exact hJ
    rw [if_pos (show L.length ≤ 64 by omega), Option.bind_some] at hJ
    intro r64
    have hasl := (Cls.sl (RepV.mono hle3 hacc)).1
    refine loop_intro (fun q : Nat × Option Nat × Nat × List Value × Mem => q.1 ≤ acc.length ∧ μ3.Le q.2.2.2.2 ∧ Rows q.2.2.2.2 1 ((prodC (acc.take q.1) L).map csD) q.2.2.2.1)
      (fun (j, b1, c1, ys, μ4) => ⟨[(9, .val (.slice pv.1 L.length pv.2)), (10, .row 1 b1 ys.length c1), (52, .val (.slice p.2.1 g.goals.length p.2.2)), (53, .val (.int .i64 g.goals.length)), (54, .val (.int .i64 i)), (65, .val (.slice b acc.length c)), (66, .val (.int .i64 acc.length)), (67, .val (.int .i64 j))], [(1, some (.row b1 c1 53 1 ys))], 2, μ4, Mem.nil⟩) (fun q => acc.length - q.1)
      (0, some r64, 0, [], μ3) ⟨Nat.zero_le _, Mem.Le.refl _, .nil⟩ (fun (_, _, _, _, _) => ⟨rfl, rfl⟩) ⟨⟨rfl, rfl, rfl, rfl, rfl, rfl, rfl, rfl, trivial⟩, ⟨rfl, trivial⟩, rfl, rfl⟩ ?_
    rintro ⟨j, b1, c1, ys, μ4⟩ ⟨hj, hle4, hrows⟩
    dsimp only at hj hle4 hrows
    have hyl := hrows.len
    rw [List.length_map, prodC_len, List.length_take] at hyl
    have hmul : min j acc.length * L.length ≤ 64 * 64 := Nat.mul_le_mul (by omega) (by omega)
    refine ifd (fun hlt2 => ?_) (fun hlt2 => ?_)
    · have hv_ := at_some (l := acc) (i := j) (by omega)
      obtain ⟨xa, hxa⟩ := hv_
      have hv_ := cls_elem (hasl.mono hle4) hxa
      obtain ⟨ad2, pa, hel2, hra⟩ := hv_
      have hxal := hlen xa (mem_at hxa)
      have hmul2 : j * L.length ≤ 64 * 64 := Nat.mul_le_mul (by omega) (by omega)
      rw [Nat.min_eq_left (by omega)] at hyl
      refine elem_intro hel2 ?_
      refine loop_intro (fun q : Nat × Option Nat × Nat × List Value × Mem => q.1 ≤ L.length ∧ μ4.Le q.2.2.2.2 ∧ Rows q.2.2.2.2 1 ((prodC (acc.take j) L ++ (L.take q.1).map fun y => xa ++ y).map csD) q.2.2.2.1)
        (fun (k, b1, c1, ys, μ5) => ⟨[(9, .val (.slice pv.1 L.length pv.2)), (10, .row 1 b1 ys.length c1), (12, .val (.slice pa.1 xa.length pa.2)), (52, .val (.slice p.2.1 g.goals.length p.2.2)), (53, .val (.int .i64 g.goals.length)), (54, .val (.int .i64 i)), (65, .val (.slice b acc.length c)), (66, .val (.int .i64 acc.length)), (67, .val (.int .i64 j)), (71, .val (.slice pv.1 L.length pv.2)), (72, .val (.int .i64 L.length)), (73, .val (.int .i64 k))], [(1, some (.row b1 c1 53 1 ys))], 2, μ5, Mem.nil⟩) (fun q => L.length - q.1)
        (0, b1, c1, ys, μ4) ⟨Nat.zero_le _, Mem.Le.refl _, by simpa using hrows⟩ (fun (_, _, _, _, _) => ⟨rfl, rfl⟩) ⟨⟨rfl, rfl, rfl, rfl, rfl, rfl, rfl, rfl, rfl, rfl, rfl, rfl, trivial⟩, ⟨rfl, trivial⟩, rfl, rfl⟩ ?_
      clear hrows
      rintro ⟨k, b2, c2, zs, μ5⟩ ⟨hk, hle5, hrows2⟩
      dsimp only at hk hle5 hrows2
      have hzl := hrows2.len
      rw [List.length_map, List.length_append, prodC_len, List.length_map, List.length_take, List.length_take, Nat.min_eq_left (show j ≤ acc.length by omega), Nat.min_eq_left hk] at hzl
      refine ifd (fun hlt3 => ?_) (fun hlt3 => ?_)
      · have hv_ := at_some (l := L) (i := k) (by omega)
        obtain ⟨y, hy⟩ := hv_
        have hv_ := cls_elem (((Cls.sl hL.rep).1.mono hle4).mono hle5) hy
        obtain ⟨ad3, py, hel3, hry⟩ := hv_
        have hyl2 := hL.len y (mem_at hy)
        have hv_ := csD_src (hra.mono hle5)
        obtain ⟨vx, hvx, hvxl, hsx⟩ := hv_
        have hv_ := csD_src hry
        obtain ⟨vy, hvy, hvyl, hsy⟩ := hv_
        refine elem_intro hel3 ?_
        intro r78
        refine src_intro vx hsx ?_
        refine grow_intro ?_ ?_ fun b6 c6 _ => ?_
        · show (0 + vx.length) * 72 ≤ _; omega
        · exact Nat.le_trans (m := 100000000) (show 0 + vx.length ≤ _ by omega) (by decide)
        refine src_intro vy hsy ?_
        refine grow_intro ?_ ?_ fun b7 c7 _ => ?_
        · show ((([] : List Value) ++ vx).length + vy.length) * 72 ≤ _; simp; omega
        · exact Nat.le_trans (m := 100000000) (show (([] : List Value) ++ vx).length + vy.length ≤ _ by simp; omega) (by decide)
        intro μ6 hle6 hno6 hat6 r83
        refine grow_intro ?_ ?_ fun b8 c8 _ => ?_
        · show (zs.length + 1) * 24 ≤ _; omega
        · exact Nat.le_trans (m := 100000000) (show zs.length + 1 ≤ _ by omega) (by decide)
        have hrow : RepV μ6 (csD (xa ++ y)) (.slice (b7.map fun r => ⟨r, 0, none⟩) (([] : List Value) ++ vx ++ vy).length c7) := by
          have := Rows.sl hat6 ((hvx.append hvy).mono hle6) (Nat.le_trans (m := 100000000) (by simp; omega) (by decide))
          rw [← List.map_append] at this
          exact this
        refine num64 (by omega) (by omega) ⟨(k + 1, b8, c8, _, μ6), ⟨by dsimp only; omega, hle5.trans hle6, ?_⟩, by dsimp only; omega, ⟨⟨rfl, rfl, rfl, rfl, rfl, rfl, rfl, rfl, rfl, rfl, rfl, rfl, trivial⟩, ⟨rfl, trivial⟩, rfl, rfl⟩⟩
        dsimp only
        rw [List.take_add_one, hy, Option.toList_some, List.map_append (f := fun y => xa ++ y), ← List.append_assoc, List.map_append (f := csD)]
        exact (hrows2.mono hle6).append (Rows.one hrow rfl)
      · obtain rfl : k = L.length := by omega
        rw [List.take_length, ← prodC_step hxa] at hrows2
        exact num64 (by omega) (by omega) ⟨(j + 1, b2, c2, zs, μ5), ⟨by dsimp only; omega, hle4.trans hle5, hrows2⟩, by dsimp only; omega, ⟨⟨rfl, rfl, rfl, rfl, rfl, rfl, rfl, rfl, trivial⟩, ⟨rfl, trivial⟩, rfl, rfl⟩⟩
    · obtain rfl : j = acc.length := by omega
      rw [List.take_length] at hrows
      rw [Nat.min_self] at hyl hmul
      have hpl := prodC_len acc L
      have hzlen : ∀ c ∈ prodC acc L, c.length ≤ Gl.cnts (g.goals.take (i + 1)) := fun c hc => by
        have hv_ := prodC_mem hc
        obtain ⟨u, hu, w, hw, rfl⟩ := hv_
        have h1 := hlen u hu
        have h2 := hL.len w hw
        rw [List.length_append]; omega
      refine ifd (fun hb => ?_) (fun hb => ?_)
      · refine ret_frz [1] fun μ5 hle5 hno5 hat5 => .inl ⟨prodC acc L, ?_, ?_, fun c hc => by have := hzlen c hc; omega, by omega⟩
        · have := Rows.sl hat5 (hrows.mono hle5) (Nat.le_trans (m := 100000000) (by omega) (by decide))
          exact this
        · rw [if_neg (by omega)] at hJ ⊢
          exact hJ
      · rw [if_pos (by omega)] at hJ
        refine num64 (by omega) (by omega) ⟨[1], fun μ5 hle5 hno5 hat5 => ⟨(i + 1, prodC acc L, b1.map (fun r => ⟨r, 0, none⟩), c1, μ5), ⟨by dsimp only; omega, ((hle.trans hle3).trans hle4).trans hle5, ?_, hJ, hzlen, by dsimp only; omega⟩, by dsimp only; omega, ⟨⟨?_, rfl, rfl, rfl, trivial⟩, trivial, rfl, rfl⟩⟩⟩
        · have := Rows.sl hat5 (hrows.mono hle5) (Nat.le_trans (m := 100000000) (by omega) (by decide))
          rw [← hyl, ← hpl] at this
          exact this
        · show some (SV.val (.slice _ _ _)) = some (SV.val (.slice _ _ _))
          rw [hpl, hyl]
end
end Go.Vx

/- Contracts: the clauses of a goal, the program's side. -/
namespace Go.Vx
open Go.Proofs Classical
theorem prodC_size {a l : List (List Gl)} {m n : Nat} (h1 : ∀ c ∈ a, c.length ≤ m) (h2 : ∀ c ∈ l, c.length ≤ n) : ∀ c ∈ prodC a l, c.length ≤ m + n := fun c hc => by
  have hv_ := prodC_mem hc
  obtain ⟨u, hu, w, hw, rfl⟩ := hv_
  have := h1 u hu
  have := h2 w hw
  rw [List.length_append]; omega
mutual
theorem Gl.cl_bnd : ∀ (g : Gl) {L : List (List Gl)}, g.cl = some L → (∀ c ∈ L, c.length ≤ g.cnt) ∧ L.length ≤ 64
  | .mk k s ts gs, L, h => by
    rw [Gl.cl] at h
    rw [Gl.cnt]
    split at h
    · cases h; simp
    split at h
    · cases h; simp
    split at h
    · have := Gl.clOr_bnd gs (acc := []) (n := 0) (by simp) (by simp) h
      exact ⟨fun c hc => by have := this.1 c hc; omega, this.2⟩
    split at h
    · have := Gl.clAnd_bnd gs (acc := [[]]) (n := 0) (by simp) (by simp) h
      exact ⟨fun c hc => by have := this.1 c hc; omega, this.2⟩
    · cases h
      refine ⟨fun c hc => ?_, by simp⟩
      rw [List.mem_singleton.1 hc, List.length_singleton]; omega
theorem Gl.clOr_bnd : ∀ (gs : List Gl) {acc L : List (List Gl)} {n : Nat}, (∀ c ∈ acc, c.length ≤ n) → acc.length ≤ 64 → Gl.clOr gs acc = some L → (∀ c ∈ L, c.length ≤ n + Gl.cnts gs) ∧ L.length ≤ 64
  | [], acc, L, n, h1, h2, h => by
    rw [Gl.clOr] at h; cases h
    exact ⟨fun c hc => Nat.le_trans (h1 c hc) (Nat.le_add_right _ _), h2⟩
  | g :: gs, acc, L, n, h1, h2, h => by
    rw [Gl.clOr] at h
    cases e : g.cl with
    | none => rw [e] at h; cases h
    | some l =>
      rw [e, Option.bind_some] at h
      have hb := Gl.cl_bnd g e
      split at h
      · rename_i h64
        have := Gl.clOr_bnd gs (acc := acc ++ l) (n := n + g.cnt) (fun c hc => by
          rcases List.mem_append.1 hc with hc | hc
          · have := h1 c hc; omega
          · have := hb.1 c hc; omega) h64 h
        rw [Gl.cnts]
        exact ⟨fun c hc => by have := this.1 c hc; omega, this.2⟩
      · cases h
theorem Gl.clAnd_bnd : ∀ (gs : List Gl) {acc L : List (List Gl)} {n : Nat}, (∀ c ∈ acc, c.length ≤ n) → acc.length ≤ 64 → Gl.clAnd gs acc = some L → (∀ c ∈ L, c.length ≤ n + Gl.cnts gs) ∧ L.length ≤ 64
  | [], acc, L, n, h1, h2, h => by
    rw [Gl.clAnd] at h; cases h
    exact ⟨fun c hc => Nat.le_trans (h1 c hc) (Nat.le_add_right _ _), h2⟩
  | g :: gs, acc, L, n, h1, h2, h => by
    rw [Gl.clAnd] at h
    cases e : g.cl with
    | none => rw [e] at h; cases h
    | some l =>
      rw [e, Option.bind_some] at h
      have hb := Gl.cl_bnd g e
      split at h
      · rename_i h64
        have := Gl.clAnd_bnd gs (acc := prodC acc l) (n := n + g.cnt) (prodC_size h1 hb.1) h64 h
        rw [Gl.cnts]
        exact ⟨fun c hc => by have := this.1 c hc; omega, this.2⟩
      · cases h
end
/-- The clauses and whether there are not too many. -/
def optC (P : List (List Gl) → Value → Prop) (o : Option (List (List Gl))) (v : Value) : Prop := match o with
  | some L => ∃ tv, v = .tuple #[tv, .bool true] ∧ P L tv
  | none => v = .tuple #[.slice none 0 0, .bool false]
section
variable {μ : Mem}
set_option maxHeartbeats 8000000 in
theorem clausesOf_spec : ∀ (g : Gl) {μ : Mem} {v : Value}, RepV μ g.d v → g.Sh → g.cnt ≤ 80 → Spec Tryz.prog 150 [v] μ fun v μ' => optC (Cls μ') g.cl v :=
  Gl.ind fun g ih μ v hv hS hcnt => by
    have hv0 := hv
    have hv_ := Gl.inv hv
    obtain ⟨p, rfl, hts, hgs⟩ := hv_
    have hg8 := hS.top.gl
    have hce := Gl.cnt_eq1 g
    refine Spec.mk Tryz.func150 (by kernel_rfl) ?_
    intro r1 r19
    refine ifd (fun h0 => ?_) (fun h0 => ?_)
    · intro r27 μ1 hle1 hno1 hat1 r28
      refine ret_frz [3] fun μ2 hle2 hno2 hat2 => .inl ?_
      rw [Gl.cl_eq, if_pos h0]
      exact ⟨_, rfl, Rows.sl hat2 (Rows.one (d := csD []) ((Rows.sl (μ := μ1) (ds := []) hat1 .nil (Nat.zero_le _)).mono hle2) rfl) (show 1 ≤ maxLen by decide)⟩
    refine ifd (fun h1 => ?_) (fun h1 => ?_)
    · refine ret_frz [1] fun μ2 hle2 hno2 hat2 => .inl ?_
      rw [Gl.cl_eq, if_neg h0, if_pos h1]
      exact ⟨_, rfl, Rows.sl hat2 .nil (Nat.zero_le _)⟩
    refine ifd (fun h8 => ?_) (fun h8 => ?_)
    · have hcl : g.cl = Gl.clOr g.goals [] := by rw [Gl.cl_eq, if_neg h0, if_neg h1, if_pos h8]
      refine loop_intro (fun q : Nat × List (List Gl) × Option Nat × Nat × List Value × Mem => q.1 ≤ g.goals.length ∧ μ.Le q.2.2.2.2.2 ∧ Rows q.2.2.2.2.2 1 (q.2.1.map csD) q.2.2.2.2.1 ∧ g.cl = Gl.clOr (g.goals.drop q.1) q.2.1 ∧ q.2.1.length ≤ 64)
        (fun (i, acc, b, c, ys, μ') => ⟨[(4, .row 1 b ys.length c), (34, .val (.slice p.2.1 g.goals.length p.2.2)), (35, .val (.int .i64 g.goals.length)), (36, .val (.int .i64 i))], [(1, some (.row b c 53 1 ys))], 2, μ', Mem.nil⟩) (fun q => g.goals.length - q.1)
        (0, [], some r19, 0, [], μ) ⟨Nat.zero_le _, Mem.Le.refl _, .nil, hcl, by simp⟩ (fun (_, _, _, _, _, _) => ⟨rfl, rfl⟩) ⟨⟨rfl, rfl, rfl, rfl, trivial⟩, ⟨rfl, trivial⟩, rfl, rfl⟩ ?_
      rintro ⟨i, acc, b, c, ys, μ'⟩ ⟨hi, hle, hrows, hJ, hmax⟩
      dsimp only at hi hle hrows hJ hmax
      have hyl := hrows.len
      rw [List.length_map] at hyl
      refine ifd (fun hlt => ?_) (fun hlt => ?_)
      · have hv_ := at_some (l := g.goals) (i := i) (by omega)
        obtain ⟨x, hx⟩ := hv_
        have hv_ := Gl.elem (hgs.mono hle) hx
        obtain ⟨ad, q, hel, hr⟩ := hv_
        have hxc := Gl.cnts_take hx
        have hxl := Gl.cnts_le g.goals (i + 1)
        refine elem_intro hel ?_
        intro r5
        refine call_plain (ih x (mem_at hx) hr (hS.sub x (mem_at hx)) (by omega)) fun v1 μ1 hle1 hR => ?_
        rw [drop_at hx, Gl.clOr] at hJ
        cases e : x.cl with
        | none =>
          rw [e] at hR hJ
          obtain rfl := hR
          refine if_intro (fun _ => ?_) (fun h => nomatch h)
          exact ret_plain (by rw [hJ]; rfl)
        | some L =>
          rw [e] at hR
          rw [e, Option.bind_some] at hJ
          obtain ⟨tv, rfl, hLr⟩ := hR
          obtain ⟨pv, rfl⟩ := hLr.inv
          have hLb := Gl.cl_bnd x e
          have hv_ := Rep.srcAll hLr
          obtain ⟨vs, hvr, hvl, hsrc⟩ := hv_
          refine if_intro (fun h => nomatch h) (fun _ => ?_)
          refine src_intro vs hsrc ?_
          refine grow_intro ?_ ?_ fun b9 c9 _ => ?_
          · show (ys.length + vs.length) * 24 ≤ _; omega
          · exact Nat.le_trans (m := 100000000) (show ys.length + vs.length ≤ _ by omega) (by decide)
          have hal : (ys ++ vs).length = (acc ++ L).length := by rw [List.length_append, List.length_append]; omega
          refine ifd (fun h64 => ?_) (fun h64 => ?_)
          · rw [if_neg (by omega)] at hJ
            exact ret_plain (by rw [hJ]; rfl)
          · rw [if_pos (by omega)] at hJ
            refine num64 (by omega) (by omega) ⟨(i + 1, acc ++ L, b9, c9, _, μ1), ⟨by dsimp only; omega, hle.trans hle1, ?_, hJ, by dsimp only; omega⟩, by dsimp only; omega, ⟨⟨rfl, rfl, rfl, rfl, trivial⟩, ⟨rfl, trivial⟩, rfl, rfl⟩⟩
            dsimp only
            rw [List.map_append]
            exact (hrows.mono hle1).append hvr
      · obtain rfl : i = g.goals.length := by omega
        rw [List.drop_length, Gl.clOr] at hJ
        refine ret_frz [1] fun μ2 hle2 hno2 hat2 => .inl ?_
        rw [hJ]
        exact ⟨_, rfl, Rows.sl hat2 (hrows.mono hle2) (Nat.le_trans (m := 100000000) (by omega) (by decide))⟩
    refine ifd (fun h7 => ?_) (fun h7 => ?_)
    rotate_left
    · intro r23 μ1 hle1 hno1 hat1 r24
      refine ret_frz [3] fun μ2 hle2 hno2 hat2 => .inl ?_
      rw [Gl.cl_eq, if_neg h0, if_neg h1, if_neg h8, if_neg h7]
      exact ⟨_, rfl, Rows.sl hat2 (Rows.one (d := csD [g]) ((Rows.sl (μ := μ1) (ds := [g.d]) hat1 (Rows.one (hv0.mono hle1) (Gl.d_n g)) (show 1 ≤ maxLen by decide)).mono hle2) rfl) (show 1 ≤ maxLen by decide)⟩
    have hcl : g.cl = Gl.clAnd g.goals [[]] := by rw [Gl.cl_eq, if_neg h0, if_neg h1, if_neg h8, if_pos h7]
    intro r56 μ1 hle1 hno1 hat1 r57
    refine loop_frz (fun q : Nat × List (List Gl) × Option Addr × Nat × Mem => q.1 ≤ g.goals.length ∧ μ.Le q.2.2.2.2 ∧ Cls q.2.2.2.2 q.2.1 (.slice q.2.2.1 q.2.1.length q.2.2.2.1) ∧ g.cl = Gl.clAnd (g.goals.drop q.1) q.2.1 ∧ (∀ c ∈ q.2.1, c.length ≤ Gl.cnts (g.goals.take q.1)) ∧ q.2.1.length ≤ 64)
      (fun (i, acc, b, c, μ') => ⟨[(4, .val (.slice b acc.length c)), (9, .val (.bool false)), (59, .val (.slice p.2.1 g.goals.length p.2.2)), (60, .val (.int .i64 g.goals.length)), (61, .val (.int .i64 i))], [], 0, μ', Mem.nil⟩) (fun q => g.goals.length - q.1) [3]
      (fun (_, _, _, _, _) => ⟨rfl, rfl⟩) (fun μ2 hle2 hno2 hat2 => ⟨(0, [[]], some ⟨r57, 0, none⟩, 1, μ2), ⟨Nat.zero_le _, hle1.trans hle2, Rows.sl hat2 (Rows.one (d := csD []) ((Rows.sl (μ := μ1) (ds := []) hat1 .nil (Nat.zero_le _)).mono hle2) rfl) (show 1 ≤ maxLen by decide), hcl, by simp, by simp⟩, ⟨rfl, rfl, rfl, rfl, rfl, trivial⟩, trivial, rfl, rfl⟩) ?_
    rintro ⟨i, acc, b, c, μ'⟩ ⟨hi, hle, hacc, hJ, hlen, hmax⟩
    dsimp only at hi hle hacc hJ hlen hmax
    refine ifd (fun hlt => ?_) (fun hlt => ?_)
    rotate_left
    · obtain rfl : i = g.goals.length := by omega
      rw [List.drop_length, Gl.clAnd] at hJ
      exact ret_plain (by rw [hJ]; exact ⟨_, rfl, hacc⟩)
    have hv_ := at_some (l := g.goals) (i := i) (by omega)
    obtain ⟨x, hx⟩ := hv_
    have hv_ := Gl.elem (hgs.mono hle) hx
    obtain ⟨ad, q, hel, hr⟩ := hv_
    have hxc := Gl.cnts_take hx
    have hxl := Gl.cnts_le g.goals (i + 1)
    refine elem_intro hel ?_
    intro r11
    refine call_plain (ih x (mem_at hx) hr (hS.sub x (mem_at hx)) (by omega)) fun v3 μ3 hle3 hR => ?_
    rw [drop_at hx, Gl.clAnd] at hJ
    obtain ⟨o, e⟩ : ∃ o, x.cl = o := ⟨_, rfl⟩
    rw [e] at hR hJ
    match o, e, hR, hJ with
    | none, e, hR, hJ =>
    obtain rfl := hR
    refine if_intro (fun _ => ?_) (fun h => nomatch h)
    exact ret_plain (by rw [hJ]; rfl)
    | some L, e, hR, hJ =>
    obtain ⟨tv, rfl, hLr⟩ := hR
    obtain ⟨pv, rfl⟩ := hLr.inv
    have hLb := Gl.cl_bnd x e
    have hLl := hLb.1
    have hLm := hLb.2
    rw [Option.bind_some] at hJ
    refine if_intro (fun h => nomatch h) (fun _ => ?_)
    intro r64
    have hasl := (Cls.sl (RepV.mono hle3 hacc)).1
    refine loop_intro (fun q : Nat × Option Nat × Nat × List Value × Mem => q.1 ≤ acc.length ∧ μ3.Le q.2.2.2.2 ∧ Rows q.2.2.2.2 1 ((prodC (acc.take q.1) L).map csD) q.2.2.2.1)
      (fun (j, b1, c1, ys, μ4) => ⟨[(9, .val (.bool false)), (12, .val (.slice pv.1 L.length pv.2)), (14, .row 1 b1 ys.length c1), (59, .val (.slice p.2.1 g.goals.length p.2.2)), (60, .val (.int .i64 g.goals.length)), (61, .val (.int .i64 i)), (73, .val (.slice b acc.length c)), (74, .val (.int .i64 acc.length)), (75, .val (.int .i64 j))], [(1, some (.row b1 c1 53 1 ys))], 2, μ4, Mem.nil⟩) (fun q => acc.length - q.1)
      (0, some r64, 0, [], μ3) ⟨Nat.zero_le _, Mem.Le.refl _, .nil⟩ (fun (_, _, _, _, _) => ⟨rfl, rfl⟩) ⟨⟨rfl, rfl, rfl, rfl, rfl, rfl, rfl, rfl, rfl, trivial⟩, ⟨rfl, trivial⟩, rfl, rfl⟩ ?_
    rintro ⟨j, b1, c1, ys, μ4⟩ ⟨hj, hle4, hrows⟩
    dsimp only at hj hle4 hrows
    have hyl := hrows.len
    rw [List.length_map, prodC_len, List.length_take] at hyl
    have hmul : min j acc.length * L.length ≤ 64 * 64 := Nat.mul_le_mul (by omega) (by omega)
    refine ifd (fun hlt2 => ?_) (fun hlt2 => ?_)
    · have hv_ := at_some (l := acc) (i := j) (by omega)
      obtain ⟨xa, hxa⟩ := hv_
      have hv_ := cls_elem (hasl.mono hle4) hxa
      obtain ⟨ad2, pa, hel2, hra⟩ := hv_
      have hxal := hlen xa (mem_at hxa)
      have hmul2 : j * L.length ≤ 64 * 64 := Nat.mul_le_mul (by omega) (by omega)
      rw [Nat.min_eq_left (by omega)] at hyl
      refine elem_intro hel2 ?_
      refine loop_intro (fun q : Nat × Option Nat × Nat × List Value × Mem => q.1 ≤ L.length ∧ μ4.Le q.2.2.2.2 ∧ Rows q.2.2.2.2 1 ((prodC (acc.take j) L ++ (L.take q.1).map fun y => xa ++ y).map csD) q.2.2.2.1)
        (fun (k, b1, c1, ys, μ5) => ⟨[(9, .val (.bool false)), (12, .val (.slice pv.1 L.length pv.2)), (14, .row 1 b1 ys.length c1), (16, .val (.slice pa.1 xa.length pa.2)), (59, .val (.slice p.2.1 g.goals.length p.2.2)), (60, .val (.int .i64 g.goals.length)), (61, .val (.int .i64 i)), (73, .val (.slice b acc.length c)), (74, .val (.int .i64 acc.length)), (75, .val (.int .i64 j)), (79, .val (.slice pv.1 L.length pv.2)), (80, .val (.int .i64 L.length)), (81, .val (.int .i64 k))], [(1, some (.row b1 c1 53 1 ys))], 2, μ5, Mem.nil⟩) (fun q => L.length - q.1)
        (0, b1, c1, ys, μ4) ⟨Nat.zero_le _, Mem.Le.refl _, by simpa using hrows⟩ (fun (_, _, _, _, _) => ⟨rfl, rfl⟩) ⟨⟨rfl, rfl, rfl, rfl, rfl, rfl, rfl, rfl, rfl, rfl, rfl, rfl, rfl, trivial⟩, ⟨rfl, trivial⟩, rfl, rfl⟩ ?_
      clear hrows
      rintro ⟨k, b2, c2, zs, μ5⟩ ⟨hk, hle5, hrows2⟩
      dsimp only at hk hle5 hrows2
      have hzl := hrows2.len
      rw [List.length_map, List.length_append, prodC_len, List.length_map, List.length_take, List.length_take, Nat.min_eq_left (show j ≤ acc.length by omega), Nat.min_eq_left hk] at hzl
      refine ifd (fun hlt3 => ?_) (fun hlt3 => ?_)
      · have hv_ := at_some (l := L) (i := k) (by omega)
        obtain ⟨y, hy⟩ := hv_
        have hv_ := cls_elem (((Cls.sl hLr).1.mono hle4).mono hle5) hy
        obtain ⟨ad3, py, hel3, hry⟩ := hv_
        have hyl2 := hLl y (mem_at hy)
        have hv_ := csD_src (hra.mono hle5)
        obtain ⟨vx, hvx, hvxl, hsx⟩ := hv_
        have hv_ := csD_src hry
        obtain ⟨vy, hvy, hvyl, hsy⟩ := hv_
        refine elem_intro hel3 ?_
        intro r78
        refine src_intro vx hsx ?_
        refine grow_intro ?_ ?_ fun b6 c6 _ => ?_
        · show (0 + vx.length) * 72 ≤ _; omega
        · exact Nat.le_trans (m := 100000000) (show 0 + vx.length ≤ _ by omega) (by decide)
        refine src_intro vy hsy ?_
        refine grow_intro ?_ ?_ fun b7 c7 _ => ?_
        · show ((([] : List Value) ++ vx).length + vy.length) * 72 ≤ _; simp; omega
        · exact Nat.le_trans (m := 100000000) (show (([] : List Value) ++ vx).length + vy.length ≤ _ by simp; omega) (by decide)
        intro μ6 hle6 hno6 hat6 r83
        refine grow_intro ?_ ?_ fun b8 c8 _ => ?_
        · show (zs.length + 1) * 24 ≤ _; omega
        · exact Nat.le_trans (m := 100000000) (show zs.length + 1 ≤ _ by omega) (by decide)
        have hrow : RepV μ6 (csD (xa ++ y)) (.slice (b7.map fun r => ⟨r, 0, none⟩) (([] : List Value) ++ vx ++ vy).length c7) := by
          have := Rows.sl hat6 ((hvx.append hvy).mono hle6) (Nat.le_trans (m := 100000000) (by simp; omega) (by decide))
          rw [← List.map_append] at this
          exact this
        refine num64 (by omega) (by omega) ⟨(k + 1, b8, c8, _, μ6), ⟨by dsimp only; omega, hle5.trans hle6, ?_⟩, by dsimp only; omega, ⟨⟨rfl, rfl, rfl, rfl, rfl, rfl, rfl, rfl, rfl, rfl, rfl, rfl, rfl, trivial⟩, ⟨rfl, trivial⟩, rfl, rfl⟩⟩
        dsimp only
        rw [List.take_add_one, hy, Option.toList_some, List.map_append (f := fun y => xa ++ y), ← List.append_assoc, List.map_append (f := csD)]
        exact (hrows2.mono hle6).append (Rows.one hrow rfl)
      · obtain rfl : k = L.length := by omega
        rw [List.take_length, ← prodC_step hxa] at hrows2
        exact num64 (by omega) (by omega) ⟨(j + 1, b2, c2, zs, μ5), ⟨by dsimp only; omega, hle4.trans hle5, hrows2⟩, by dsimp only; omega, ⟨⟨rfl, rfl, rfl, rfl, rfl, rfl, rfl, rfl, rfl, trivial⟩, ⟨rfl, trivial⟩, rfl, rfl⟩⟩
    · obtain rfl : j = acc.length := by omega
      rw [List.take_length] at hrows
      rw [Nat.min_self] at hyl hmul
      have hpl := prodC_len acc L
      have hzlen : ∀ c ∈ prodC acc L, c.length ≤ Gl.cnts (g.goals.take (i + 1)) := fun c hc => by
        have hv_ := prodC_mem hc
        obtain ⟨u, hu, w, hw, rfl⟩ := hv_
        have h1 := hlen u hu
        have h2 := hLl w hw
        rw [List.length_append]; omega
      refine if_intro (fun h => nomatch h) (fun _ => ?_)
      refine ifd (fun hb => ?_) (fun hb => ?_)
      · rw [if_neg (by omega)] at hJ
        exact ret_plain (by rw [hJ]; rfl)
      · rw [if_pos (by omega)] at hJ
        refine num64 (by omega) (by omega) ⟨[1], fun μ5 hle5 hno5 hat5 => ⟨(i + 1, prodC acc L, b1.map (fun r => ⟨r, 0, none⟩), c1, μ5), ⟨by dsimp only; omega, ((hle.trans hle3).trans hle4).trans hle5, ?_, hJ, hzlen, by dsimp only; omega⟩, by dsimp only; omega, ⟨⟨?_, ?_, rfl, rfl, rfl, trivial⟩, trivial, rfl, rfl⟩⟩⟩
        · have := Rows.sl hat5 (hrows.mono hle5) (Nat.le_trans (m := 100000000) (by omega) (by decide))
          rw [← hyl, ← hpl] at this
          exact this
        · show some (SV.val (.slice _ _ _)) = some (SV.val (.slice _ _ _))
          rw [hpl, hyl]
        · show some (SV.val (.bool _)) = some (SV.val (.bool _))
          rw [decide_eq_false hb]
end
end Go.Vx

/- Contracts: goals copied, the reference's side. -/
namespace Go.Vx
open Go.Proofs Classical
section
variable {μ : Mem}
theorem l02CopyAll_spec {xs : List T} {base : Option Addr} {cap : Nat} (hsl : Sl μ 4 base xs.length ((xs.map T.tm).map Tm.d)) (hn : xs.length ≤ 10000000) :
    Spec Tryz.prog 187 [.slice base xs.length cap] μ fun v μ' => RepV μ' (.sl 4 ((xs.map T.tm).map Tm.d)) v := by
  refine Spec.mk Tryz.func187 (by kernel_rfl) ?_
  intro r6
  refine loop_intro (fun p : Nat × Option Nat × Nat × List Value × Mem => p.1 ≤ xs.length ∧ μ.Le p.2.2.2.2 ∧ Rows p.2.2.2.2 4 (((xs.take p.1).map T.tm).map Tm.d) p.2.2.2.1)
    (fun (i, b, c, ys, μ') => ⟨[(3, .row 0 b ys.length c), (7, .val (.slice base xs.length cap)), (8, .val (.int .i64 xs.length)), (9, .val (.int .i64 i))], [(0, some (.row b c 44 4 ys))], 1, μ', Mem.nil⟩) (fun p => xs.length - p.1)
    (0, some r6, 0, [], μ) ⟨by simp, Mem.Le.refl _, .nil⟩ (fun (_, _, _, _, _) => ⟨rfl, rfl⟩) ⟨⟨rfl, rfl, rfl, rfl, trivial⟩, ⟨rfl, trivial⟩, rfl, rfl⟩ ?_
  rintro ⟨i, b, c, ys, μ'⟩ ⟨hi, hle, hrows⟩
  dsimp only at hi hle hrows
  have hlen := hrows.len
  simp only [List.length_map, List.length_take] at hlen
  refine ifd (fun h => ?_) (fun h => ?_)
  · have hv_ := at_some (l := xs) (i := i) (by omega)
    obtain ⟨x, hx'⟩ := hv_
    have hv_ := Tm.elem (i := i) (t := x.tm) (hsl.mono hle) (by simp [hx'])
    obtain ⟨ad, p, hel, hto⟩ := hv_
    refine elem_intro hel ?_
    intro r
    refine call_plain (l02Copy_spec _ hto) fun v4 μ4 hle4 hR4 => ?_
    have hv_ := Tm.invV hR4
    obtain ⟨q, rfl⟩ := hv_
    intro r5
    refine grow_intro ?_ ?_ fun b' c' _ => ?_
    · show (ys.length + 1) * 56 ≤ _; omega
    · exact Nat.le_trans (m := 100000000) (show ys.length + 1 ≤ _ by omega) (by decide)
    refine num64 (by omega) (by omega) ⟨(i + 1, b', c', _, μ4), ⟨by dsimp only; omega, hle.trans hle4, ?_⟩, by dsimp only; omega, ⟨⟨rfl, rfl, rfl, rfl, trivial⟩, ⟨rfl, trivial⟩, rfl, rfl⟩⟩
    dsimp only
    rw [List.take_add_one, hx', Option.toList_some]
    simp only [List.map_append, List.map_cons, List.map_nil]
    exact (hrows.mono hle4).append (Rows.one hR4 (Tm.d_n _))
  · obtain rfl : i = xs.length := by omega
    rw [List.take_length] at hrows
    refine ret_frz [0] fun μ' hle' hno hrow => .inl ?_
    exact Rows.sl hrow (hrows.mono hle') (Nat.le_trans (m := 100000000) (by omega) (by decide))
theorem RepS.cons1 {d : D} {r : List D} {v : Value} {cs : List Value} (k1 : Rep μ d [v]) (k2 : RepS μ r cs) : RepS μ (d :: r) (v :: cs) := ⟨[v], cs, rfl, k1, k2⟩
theorem l13Copy_spec : ∀ (g : Gl) {μ : Mem} {v : Value}, RepV μ g.d v → g.Sh → Spec Tryz.prog 100 [v] μ fun v μ' => RepV μ' g.d v :=
  Gl.ind fun g ih μ v hv hS => by
    have hv_ := Gl.inv hv
    obtain ⟨p, rfl, hts, hgs⟩ := hv_
    have hv_ := lift_ok hS.top.tm
    obtain ⟨xs, hxs, hok⟩ := hv_
    have hg8 := hS.top.gl
    have hx4 : xs.length ≤ 4 := by
      have T := hS.top
      have e9 := T.ln9; have e2 := T.ln2; have e1 := T.ln1; have e0 := T.ln0; have k0 := T.k0; have k1 := T.k1
      have : g.terms.length = xs.length := by rw [hxs, List.length_map]
      omega
    rw [hxs, List.length_map] at hts ⊢
    refine Spec.mk Tryz.func100 (by kernel_rfl) ?_
    intro r1 r2
    refine call_plain (l02CopyAll_spec hts (by omega)) fun v1 μ1 hle1 hR1 => ?_
    have hv_ := Rep.sl hR1
    obtain ⟨b1, c1, rfl, hs1⟩ := hv_
    intro r3
    have hgs1 := hgs.mono hle1
    refine loop_nil (fun p : Nat × Option Nat × Nat × List Value × Mem => p.1 ≤ g.goals.length ∧ μ1.Le p.2.2.2.2 ∧ Rows p.2.2.2.2 4 ((g.goals.take p.1).map Gl.d) p.2.2.2.1)
      (fun (i, b, c, ys, μ') => ⟨[(2, .loc 1 r2 0), (3, .loc 2 r3 0), (15, .val (.slice p.2.1 g.goals.length p.2.2)), (16, .val (.int .i64 g.goals.length)), (17, .val (.int .i64 i))],
        [(1, some (.cells r2 [.val (.int .i64 0), .val (.string ⟨#[]⟩), .val (.slice none 0 0), .val (.slice none 0 0)] 55)), (2, some (.cells r3 [.val (.int .i64 g.kind), .val (.string g.name), .val (.slice b1 ((xs.map T.tm).map Tm.d).length c1), .row 3 b ys.length c] 55)), (3, some (.row b c 55 4 ys))], 4, μ', Mem.nil⟩) (fun p => g.goals.length - p.1)
      (0, none, 0, [], μ1) ⟨by simp, Mem.Le.refl _, .nil⟩ (fun (_, _, _, _, _) => ⟨rfl, rfl⟩) ⟨⟨⟨_, rfl, .inl rfl⟩, ⟨_, rfl, .inl rfl⟩, ⟨_, rfl, .inl rfl⟩, ⟨_, rfl, .inl rfl⟩, ⟨_, rfl, .inl rfl⟩, trivial⟩, ⟨.inl rfl, .inr (.inr ⟨_, _, _, _, rfl, rfl, .inl rfl, .inl rfl, .inl rfl, .inr ⟨3, rfl, rfl, Nat.le_refl _⟩, trivial⟩), .inr (.inl ⟨_, _, rfl, Nat.le_refl _⟩), trivial⟩, rfl, rfl⟩ ?_
    rintro ⟨i, b, c, ys, μ'⟩ ⟨hi, hle, hrows⟩
    dsimp only at hi hle hrows
    have hlen := hrows.len
    simp only [List.length_map, List.length_take] at hlen
    refine ifd (fun h => ?_) (fun h => ?_)
    · have hv_ := at_some (l := g.goals) (i := i) (by omega)
      obtain ⟨t, ht⟩ := hv_
      have hv_ := Gl.elem (hgs1.mono hle) ht
      obtain ⟨ad, p3, hel, hr⟩ := hv_
      refine elem_intro hel ?_
      intro r4
      refine call_plain (ih t (mem_at ht) hr (hS.sub t (mem_at ht))) fun v' μ'' hle2 hR => ?_
      have hv_ := Gl.invV hR
      obtain ⟨q, rfl⟩ := hv_
      intro r5
      refine grow_intro ?_ ?_ fun b' c' _ => ?_
      · show (ys.length + 1) * 72 ≤ _; omega
      · exact Nat.le_trans (m := 100000000) (show ys.length + 1 ≤ _ by omega) (by decide)
      have hsucc : (g.goals.take (i + 1)).map Gl.d = (g.goals.take i).map Gl.d ++ [t.d] := by
        rw [List.take_add_one, ht, Option.toList_some]; simp
      exact num64 (by omega) (by omega) ⟨(i + 1, b', c', _, μ''), ⟨by dsimp only; omega, hle.trans hle2, by rw [hsucc]; exact (hrows.mono hle2).append (Rows.one hR (Gl.d_n _))⟩, by dsimp only; omega, ⟨⟨rfl, rfl, rfl, rfl, rfl, trivial⟩, ⟨rfl, rfl, rfl, trivial⟩, rfl, rfl⟩⟩
    · obtain rfl : i = g.goals.length := by omega
      rw [List.take_length] at hrows
      refine ret_frz [3] fun μ2 hle2 hno hrow => .inl ?_
      rw [Gl.d_eq, hxs]
      exact ⟨_, rfl, RepS.int (RepS.str (RepS.cons1 ((hR1.mono hle).mono hle2) (RepS.last (Rows.sl hrow (hrows.mono hle2) (Nat.le_trans (m := 100000000) (by omega) (by decide))))))⟩
end
end Go.Vx

/- Contracts: rows of a program's relations. -/
namespace Go.Vx
open Go.Proofs Classical
/-- Rows fit a program. -/
structure RowsFit (p : Pg) (rows : List Int) : Prop where
  pos : p.Pos
  cls : ∀ r ∈ p.rels, r.body.cl ≠ none
  len : rows.length = p.rels.length
  rng : ∀ (i : Nat) n r, rows[i]? = some n → p.rels[i]? = some r → 0 ≤ n ∧ n < 2 ^ (2 ^ r.arity.toNat)
section
variable {μ : Mem}
theorem l16Copy_spec {c : List Gl} {base : Option Addr} {cap : Nat} (hsl : Sl μ 4 base c.length (c.map Gl.d)) (hn : c.length ≤ 1000000) (hS : ∀ x ∈ c, x.Sh) :
    Spec Tryz.prog 220 [.slice base c.length cap] μ fun v μ' => RepV μ' (csD c) v := by
  refine Spec.mk Tryz.func220 (by kernel_rfl) ?_
  intro r6
  refine loop_intro (fun p : Nat × Option Nat × Nat × List Value × Mem => p.1 ≤ c.length ∧ μ.Le p.2.2.2.2 ∧ Rows p.2.2.2.2 4 ((c.take p.1).map Gl.d) p.2.2.2.1)
    (fun (i, b, k, ys, μ') => ⟨[(3, .row 0 b ys.length k), (7, .val (.slice base c.length cap)), (8, .val (.int .i64 c.length)), (9, .val (.int .i64 i))], [(0, some (.row b k 55 4 ys))], 1, μ', Mem.nil⟩) (fun p => c.length - p.1)
    (0, some r6, 0, [], μ) ⟨by simp, Mem.Le.refl _, .nil⟩ (fun (_, _, _, _, _) => ⟨rfl, rfl⟩) ⟨⟨rfl, rfl, rfl, rfl, trivial⟩, ⟨rfl, trivial⟩, rfl, rfl⟩ ?_
  rintro ⟨i, b, k, ys, μ'⟩ ⟨hi, hle, hrows⟩
  dsimp only at hi hle hrows
  have hlen := hrows.len
  simp only [List.length_map, List.length_take] at hlen
  refine ifd (fun h => ?_) (fun h => ?_)
  · have hv_ := at_some (l := c) (i := i) (by omega)
    obtain ⟨x, hx⟩ := hv_
    have hv_ := Gl.elem (hsl.mono hle) hx
    obtain ⟨ad, p, hel, hr⟩ := hv_
    refine elem_intro hel ?_
    intro r5
    refine call_plain (l13Copy_spec x hr (hS x (mem_at hx))) fun v4 μ4 hle4 hR4 => ?_
    have hv_ := Gl.invV hR4
    obtain ⟨q, rfl⟩ := hv_
    intro r16
    refine grow_intro ?_ ?_ fun b' c' _ => ?_
    · show (ys.length + 1) * 72 ≤ _; omega
    · exact Nat.le_trans (m := 100000000) (show ys.length + 1 ≤ _ by omega) (by decide)
    refine num64 (by omega) (by omega) ⟨(i + 1, b', c', _, μ4), ⟨by dsimp only; omega, hle.trans hle4, ?_⟩, by dsimp only; omega, ⟨⟨rfl, rfl, rfl, rfl, trivial⟩, ⟨rfl, trivial⟩, rfl, rfl⟩⟩
    dsimp only
    rw [List.take_add_one, hx, Option.toList_some, List.map_append]
    exact (hrows.mono hle4).append (Rows.one hR4 (Gl.d_n _))
  · obtain rfl : i = c.length := by omega
    rw [List.take_length] at hrows
    refine ret_frz [0] fun μ' hle' hno hrow => .inl ?_
    exact Rows.sl hrow (hrows.mono hle') (Nat.le_trans (m := 100000000) (by omega) (by decide))
mutual
theorem Gl.cl_Sh : ∀ (g : Gl) {L : List (List Gl)}, g.Sh → g.cl = some L → ∀ c ∈ L, ∀ x ∈ c, x.Sh
  | .mk k s ts gs, L, hS, h => by
    have hsub : ∀ x ∈ gs, x.Sh := hS.sub
    rw [Gl.cl] at h
    split at h
    · cases h; simp
    split at h
    · cases h; simp
    split at h
    · exact Gl.clOr_Sh gs hsub (by simp) h
    split at h
    · exact Gl.clAnd_Sh gs hsub (by simp) h
    · cases h
      intro c hc x hx
      rw [List.mem_singleton.1 hc] at hx
      rw [List.mem_singleton.1 hx]; exact hS
theorem Gl.clOr_Sh : ∀ (gs : List Gl) {acc L : List (List Gl)}, (∀ x ∈ gs, x.Sh) → (∀ c ∈ acc, ∀ x ∈ c, x.Sh) → Gl.clOr gs acc = some L → ∀ c ∈ L, ∀ x ∈ c, x.Sh
  | [], acc, L, _, h1, h => by
    rw [Gl.clOr] at h; cases h; exact h1
  | g :: gs, acc, L, hS, h1, h => by
    rw [Gl.clOr] at h
    cases e : g.cl with
    | none => rw [e] at h; cases h
    | some l =>
      rw [e, Option.bind_some] at h
      have hb := Gl.cl_Sh g (hS g (by simp)) e
      split at h
      · exact Gl.clOr_Sh gs (acc := acc ++ l) (fun x hx => hS x (by simp [hx])) (fun c hc => by
          rcases List.mem_append.1 hc with hc | hc
          · exact h1 c hc
          · exact hb c hc) h
      · cases h
theorem Gl.clAnd_Sh : ∀ (gs : List Gl) {acc L : List (List Gl)}, (∀ x ∈ gs, x.Sh) → (∀ c ∈ acc, ∀ x ∈ c, x.Sh) → Gl.clAnd gs acc = some L → ∀ c ∈ L, ∀ x ∈ c, x.Sh
  | [], acc, L, _, h1, h => by
    rw [Gl.clAnd] at h; cases h; exact h1
  | g :: gs, acc, L, hS, h1, h => by
    rw [Gl.clAnd] at h
    cases e : g.cl with
    | none => rw [e] at h; cases h
    | some l =>
      rw [e, Option.bind_some] at h
      have hb := Gl.cl_Sh g (hS g (by simp)) e
      split at h
      · exact Gl.clAnd_Sh gs (acc := prodC acc l) (fun x hx => hS x (by simp [hx])) (fun c hc => by
          have hv_ := prodC_mem hc
          obtain ⟨u, hu, w, hw, rfl⟩ := hv_
          intro x hx
          rcases List.mem_append.1 hx with hx | hx
          · exact h1 u hu x hx
          · exact hb w hw x hx) h
      · cases h
end
theorem ClausesOf_spec {g : Gl} {v : Value} (hv : RepV μ g.d v) (hw : g.d.wd) (hok : g.Ok) : Spec Tryz.prog 138 [v] μ fun v μ' => optC (Cls μ') g.cl v := by
  have hv0 := hv
  have hv_ := Gl.inv hv
  obtain ⟨p, rfl, -, -⟩ := hv_
  refine Spec.mk Tryz.func138 (by kernel_rfl) ?_
  intro r1
  refine call_gives (spec_GoalOk_spec g hv0 hw) ?_
  refine ifnd (fun h => absurd hok h) (fun _ => ?_)
  refine call_plain (l16Clauses_spec g hv0 hok.1 hok.2) fun v1 μ1 hle1 hR => ?_
  obtain ⟨L, hL⟩ := hR
  obtain ⟨pv, rfl⟩ := hL.rep.inv
  have hcl := hL.cl
  refine ifd (fun h64 => ?_) (fun h64 => ?_)
  · rw [if_neg (by omega)] at hcl
    exact ret_plain (by rw [hcl]; rfl)
  rw [if_pos (by omega)] at hcl
  rw [hcl]
  have hSh := Gl.cl_Sh g hok.1 hcl
  have hbd := Gl.cl_bnd g hcl
  have h80 := hok.2
  have hsl := (Cls.sl hL.rep).1
  intro r16
  refine loop_intro (fun p : Nat × Option Nat × Nat × List Value × Mem => p.1 ≤ L.length ∧ μ1.Le p.2.2.2.2 ∧ Rows p.2.2.2.2 1 ((L.take p.1).map csD) p.2.2.2.1)
    (fun (i, b, k, ys, μ') => ⟨[(5, .row 1 b ys.length k), (17, .val (.slice pv.1 L.length pv.2)), (18, .val (.int .i64 L.length)), (19, .val (.int .i64 i))], [(1, some (.row b k 53 1 ys))], 2, μ', Mem.nil⟩) (fun p => L.length - p.1)
    (0, some r16, 0, [], μ1) ⟨by simp, Mem.Le.refl _, .nil⟩ (fun (_, _, _, _, _) => ⟨rfl, rfl⟩) ⟨⟨rfl, rfl, rfl, rfl, trivial⟩, ⟨rfl, trivial⟩, rfl, rfl⟩ ?_
  rintro ⟨i, b, k, ys, μ'⟩ ⟨hi, hle, hrows⟩
  dsimp only at hi hle hrows
  have hlen := hrows.len
  simp only [List.length_map, List.length_take] at hlen
  refine ifd (fun h => ?_) (fun h => ?_)
  · have hv_ := at_some (l := L) (i := i) (by omega)
    obtain ⟨c, hc⟩ := hv_
    have hv_ := cls_elem (hsl.mono hle) hc
    obtain ⟨ad, pc, hel, hrc⟩ := hv_
    have hcl2 := hbd.1 c (mem_at hc)
    have hcs : Sl μ' 4 pc.1 c.length (c.map Gl.d) := by
      have hv_ := Rep.sl (xs := c.map Gl.d) hrc
      obtain ⟨b', c', e1, hs⟩ := hv_
      have hv_ := Value.slice.inj e1
      obtain ⟨rfl, _, _⟩ := hv_
      simpa using hs
    refine elem_intro hel ?_
    refine call_plain (l16Copy_spec hcs (by omega) (hSh c (mem_at hc))) fun v4 μ4 hle4 hR4 => ?_
    have hv_ := csD_inv hR4
    obtain ⟨q, rfl⟩ := hv_
    intro r26
    refine grow_intro ?_ ?_ fun b' c' _ => ?_
    · show (ys.length + 1) * 24 ≤ _; omega
    · exact Nat.le_trans (m := 100000000) (show ys.length + 1 ≤ _ by omega) (by decide)
    refine num64 (by omega) (by omega) ⟨(i + 1, b', c', _, μ4), ⟨by dsimp only; omega, hle.trans hle4, ?_⟩, by dsimp only; omega, ⟨⟨rfl, rfl, rfl, rfl, trivial⟩, ⟨rfl, trivial⟩, rfl, rfl⟩⟩
    dsimp only
    rw [List.take_add_one, hc, Option.toList_some, List.map_append]
    exact (hrows.mono hle4).append (Rows.one hR4 rfl)
  · obtain rfl : i = L.length := by omega
    rw [List.take_length] at hrows
    refine ret_frz [1] fun μ' hle' hno hrow => .inl ⟨_, rfl, ?_⟩
    exact Rows.sl hrow (hrows.mono hle') (Nat.le_trans (m := 100000000) (by omega) (by decide))
end
end Go.Vx

/- Contracts: the laws' own functions on values of the type Mark: sizes, copies, equality, marks; what an argument reads. (By gen_types.py.) -/
namespace Go.Vx
open Go.Proofs Classical
structure Mk where
  var : Int
  tag : ByteArray
def Mk.d (x : Mk) : D := .st [.i x.var, .s x.tag]
theorem Mk.d_eq (x : Mk) : x.d = .st [.i x.var, .s x.tag] := rfl
theorem Mk.d_n (x : Mk) : x.d.n = 2 := by
  rw [Mk.d_eq]
  simp only [D.n, D.ns]
abbrev Mk.P := Unit
/-- The cells of a value. -/
def Mk.cs (x : Mk) (p : Mk.P) : List Value := [.int .i64 x.var, .string x.tag]
section
variable {μ : Mem}
def Mk.At (μ : Mem) (x : Mk) (p : Mk.P) : Prop := True
theorem Mk.invA {x : Mk} {cs : List Value} (h : Rep μ x.d cs) : ∃ p : Mk.P, cs = x.cs p ∧ Mk.At μ x p := by
  rw [Mk.d_eq] at h
  obtain ⟨a0, t0, rfl, h0, h⟩ := h
  have h0 : a0 = [.int .i64 x.var] := h0
  subst h0
  obtain ⟨a1, t1, rfl, h1, h⟩ := h
  have h1 : a1 = [.string x.tag] := h1
  subst h1
  obtain rfl : t1 = [] := h
  exact ⟨(), by simp [Mk.cs], trivial⟩
theorem Mk.rep {x : Mk} {cs : List Value} (h : Rep μ x.d cs) : RepV μ x.d (.agg cs.toArray) := by
  rw [Mk.d_eq] at h ⊢; exact ⟨cs, rfl, h⟩
theorem Mk.invR {x : Mk} {cs : List Value} (h : Rep μ x.d cs) : ∃ p : Mk.P, cs = x.cs p ∧ RepV μ x.d (.agg (x.cs p).toArray) := by
  have hv_ := Mk.invA h
  obtain ⟨p, e, _⟩ := hv_
  subst e
  exact ⟨p, rfl, Mk.rep h⟩
theorem Mk.inv {x : Mk} {v : Value} (h : RepV μ x.d v) : ∃ p : Mk.P, v = .agg #[.int .i64 x.var, .string x.tag] ∧ Mk.At μ x p := by
  have h2 : ∃ cs, v = .agg (List.toArray cs) ∧ Rep μ x.d cs := by rw [Mk.d_eq] at h ⊢; exact h
  obtain ⟨cs, rfl, h3⟩ := h2
  have hv_ := Mk.invA h3
  obtain ⟨p, rfl, hA⟩ := hv_
  exact ⟨p, rfl, hA⟩
theorem Mk.invV {x : Mk} {v : Value} (h : RepV μ x.d v) : ∃ p : Mk.P, v = .agg #[.int .i64 x.var, .string x.tag] := by
  have hv_ := Mk.inv h
  obtain ⟨p, h, _⟩ := hv_
  exact ⟨p, h⟩
theorem Mk.elemA {l : List Mk} {base : Option Addr} {n : Nat} (h : Sl μ 2 base n (l.map Mk.d)) {i : Nat} {x : Mk} (hx : l[i]? = some x) : ∃ ad, ∃ p : Mk.P, ElemAt μ base n 2 i ad (x.cs p) ∧ RepV μ x.d (.agg (x.cs p).toArray) ∧ Mk.At μ x p := by
  have hv_ := h.get i x.d (by simp [hx])
  obtain ⟨ad, cs, h1, h2⟩ := hv_
  have hv_ := Mk.invA h2
  obtain ⟨p, rfl, hA⟩ := hv_
  exact ⟨ad, p, h1, Mk.rep h2, hA⟩
theorem Mk.elem {l : List Mk} {base : Option Addr} {n : Nat} (h : Sl μ 2 base n (l.map Mk.d)) {i : Nat} {x : Mk} (hx : l[i]? = some x) : ∃ ad, ∃ p : Mk.P, ElemAt μ base n 2 i ad (x.cs p) ∧ RepV μ x.d (.agg (x.cs p).toArray) := by
  have hv_ := Mk.elemA h hx
  obtain ⟨ad, p, h1, h2, _⟩ := hv_
  exact ⟨ad, p, h1, h2⟩
theorem Mk.sz_eq (x : Mk) : x.d.sz = x.tag.size := by
  rw [Mk.d_eq]
  simp [D.sz, D.szs]
end
end Go.Vx

/- Plain: marks of variables: which lists are well-formed, and what a mark asked of a term makes. -/
namespace Go.Vx
open Go.Proofs Classical
def GoodM (k : Mk) : Prop := (0 ≤ k.var ∧ k.var ≤ 100000) ∧ IsNm k.tag
/-- A symbol in a term. -/
def T.hasSym (s : ByteArray) : T → Prop
  | .sym a => a = s
  | .pair a b => a.hasSym s ∨ b.hasSym s
  | .nil => False
  | .var _ => False
  | .num _ => False
theorem T.hasSym_args (s : ByteArray) (x : T) : x.hasSym s ↔ (x.tm.kind = 2 ∧ x.tm.name = s) ∨ ∃ y ∈ x.args, y.hasSym s := by
  cases x <;> simp [T.hasSym, T.tm, Tm.kind, Tm.name, T.args]
end Go.Vx

/- Contracts: marks: which lists are well-formed; a mark asked of a term, the reference's side. -/
namespace Go.Vx
open Go.Proofs Classical
def Mk.v (k : Mk) : Value := .agg #[.int .i64 k.var, .string k.tag]
section
variable {μ : Mem}
theorem l10Contains_spec (s : ByteArray) : ∀ (x : T) {v : Value}, RepV μ x.tm.d v → Gives Tryz.prog 177 [v, .string s] μ (.bool (decide (x.hasSym s))) :=
  T.ind fun x ih v hv => by
    have hv_ := T.inv hv
    obtain ⟨base, cap, rfl, hsl⟩ := hv_
    have hn := maxLen_le hsl.max
    refine Spec.mk Tryz.func177 (by kernel_rfl) ?_
    intro r
    refine loop_intro (fun i : Nat => i ≤ x.args.length ∧ ∀ j y, j < i → x.args[j]? = some y → ¬ y.hasSym s)
      (fun i => ⟨[(1, .val (.string s)), (2, .loc 0 r 0), (8, .val (.slice base x.args.length cap)), (9, .val (.int .i64 x.args.length)), (10, .val (.int .i64 i))], [(0, some (.cells r [.val (.int .i64 x.tm.kind), .val (.int .i64 x.tm.num), .val (.string x.tm.name), .val (.slice base x.args.length cap)] 44))], 1, μ, Mem.nil⟩) (fun i => x.args.length - i)
      0 ⟨by omega, fun j y hj => by omega⟩ (fun _ => ⟨rfl, rfl⟩) ⟨⟨rfl, rfl, rfl, rfl, rfl, trivial⟩, ⟨rfl, trivial⟩, rfl, rfl⟩ ?_
    rintro i ⟨hi, hno⟩
    refine ifd (fun h => ?_) (fun h => ?_)
    · have hv_ := at_some (l := x.args) (i := i) (by omega)
      obtain ⟨t, ht⟩ := hv_
      have hv_ := T.arg hsl ht
      obtain ⟨ad, p, hel, hto⟩ := hv_
      refine elem_intro hel ?_
      intro r2
      refine call_gives (ih t (mem_at ht) hto) ?_
      refine ifd (fun hy => ret_gives (isT ((T.hasSym_args s x).2 (.inr ⟨t, mem_at ht, hy⟩))) rfl) (fun hy => ?_)
      refine num64 (by omega) (by omega) ⟨i + 1, ⟨by omega, fun j y hj hy2 => ?_⟩, by omega, ⟨⟨rfl, rfl, rfl, rfl, rfl, trivial⟩, ⟨rfl, trivial⟩, rfl, rfl⟩⟩
      rcases Nat.lt_or_ge j i with h6 | h6
      · exact hno j y h6 hy2
      · obtain rfl : j = i := by omega
        rw [ht] at hy2; cases hy2; exact hy
    · obtain rfl : i = x.args.length := by omega
      have hn2 : ¬ ∃ y ∈ x.args, y.hasSym s := fun ⟨y, hy, h2⟩ => by
        have hv_ := List.mem_iff_getElem?.1 hy
        obtain ⟨j, hj⟩ := hv_
        exact hno j y (List.getElem?_eq_some_iff.1 hj).1 hj h2
      refine ifd (fun h2 => ?_) (fun h2 => ret_gives (isF fun k => ((T.hasSym_args s x).1 k).elim (fun k => h2 k.1) hn2) rfl)
      refine ret_gives ?_ rfl
      congr 1
      rw [Bool.eq_iff_iff, decide_eq_true_eq, decide_eq_true_eq]
      exact ⟨fun k => (T.hasSym_args s x).2 (.inl ⟨h2, k⟩), fun k => ((T.hasSym_args s x).1 k).elim (fun k => k.2) fun k => absurd k hn2⟩
end
end Go.Vx

/- Plain: facts in order, ground rules, what rules make of a base. -/
namespace Go.Vx
open Go.Proofs Classical
noncomputable abbrev cmpL : List T → List T → Int := cmpList T.cmp
structure F where
  rel : ByteArray
  args : List T
def F.fc (f : F) : Fc := ⟨f.rel, f.args.map T.tm⟩
noncomputable def cmpF (a b : F) : Int := lexI (cName a.rel b.rel) (cmpL a.args b.args)
/-! ### Lists without repeats -/
/-! ### Rules -/
structure Ru where
  head : F
  clause : Int
  vals : List T
  pos : List F
  neg : List F
def valF (vs : List T) (n : Int) : Option T := if 0 ≤ n then vs[n.toNat]? else none
noncomputable def callF (vs : List T) (g : Gl) : F := ⟨g.name, g.terms.map fun t => t.toT.subst (valF vs)⟩
def Gl.kid (g : Gl) : Gl := g.goals.getD 0 (.mk 0 ⟨#[]⟩ [] [])
/-- A simple goal holds of its terms. -/
def testT (k : Int) (xs : List T) : Prop :=
  if k = 0 then True else if k = 2 then xs[0]? = xs[1]? else if k = 3 then xs[0]? ≠ xs[1]? else if k = 4 then ∃ x, xs[0]? = some x ∧ x.tm.kind = 2
  else if k = 5 then ∃ x, xs[0]? = some x ∧ x.tm.kind = 3 else if k = 6 then ∃ x y, xs[0]? = some x ∧ xs[1]? = some y ∧ ¬ y.hasSym x.tm.name else False
def okG (U vs : List T) (g : Gl) : Prop :=
  if g.kind = 9 then ∀ a ∈ (callF vs g).args, a ∈ U else if g.kind = 10 then ∀ a ∈ (callF vs g.kid).args, a ∈ U else testT g.kind (g.terms.map fun t => t.toT.subst (valF vs))
noncomputable def posF (vs : List T) (c : List Gl) : List F := (c.filter fun g => decide (g.kind = 9)).map (callF vs)
noncomputable def negF (vs : List T) (c : List Gl) : List F := (c.filter fun g => decide (g.kind = 10)).map fun g => callF vs g.kid
noncomputable def ruleOf (r : Rl) (i : Nat) (c : List Gl) (vs : List T) : Ru := ⟨⟨r.name, vs.take r.arity.toNat⟩, i, vs, posF vs c, negF vs c⟩
/-- The digits of a number to a base of terms, the last one first. -/
def digs (U : List T) : Nat → Nat → List T
  | 0, _ => []
  | n + 1, w => U.getD (w % U.length) .nil :: digs U n (w / U.length)
theorem digs_len (U : List T) : ∀ n w, (digs U n w).length = n
  | 0, _ => rfl
  | n + 1, w => by rw [digs, List.length_cons, digs_len U n]
theorem digs_get (U : List T) : ∀ k n w, k < n → (digs U n w)[k]? = some (U.getD (w / U.length ^ k % U.length) .nil)
  | k, 0, w, h => by omega
  | 0, n + 1, w, h => by simp [digs]
  | k + 1, n + 1, w, h => by
    rw [digs, List.getElem?_cons_succ, digs_get U k n _ (by omega), Nat.div_div_eq_div_mul, ← Nat.pow_succ']
noncomputable def ruleAt (U : List T) (r : Rl) (i : Nat) (c : List Gl) (w : Nat) : Option Ru :=
  if ∀ g ∈ c, okG U (digs U (r.arity + r.locals).toNat w) g then some (ruleOf r i c (digs U (r.arity + r.locals).toNat w)) else none
noncomputable def rulesW (U : List T) (r : Rl) (i : Nat) (c : List Gl) (w : Nat) : List Ru := (List.range w).filterMap (ruleAt U r i c)
noncomputable def rulesC (U : List T) (r : Rl) (L : List (List Gl)) (k : Nat) : List Ru := (List.range k).flatMap fun i => rulesW U r i (L.getD i []) (U.length ^ (r.arity + r.locals).toNat)
noncomputable def rulesR (U : List T) (r : Rl) : List Ru := match r.body.cl with
  | none => []
  | some L => rulesC U r L L.length
noncomputable def rulesP (p : Pg) (U : List T) : List Ru := p.rels.flatMap (rulesR U)
def waysOk (p : Pg) (U : List T) : Prop := ∀ r ∈ p.rels, r.body.cl ≠ none ∧ U.length ^ (r.arity + r.locals).toNat ≤ 4096
noncomputable def groundR (p : Pg) (U : List T) : Option (List Ru) := if waysOk p U ∧ (rulesP p U).length ≤ 2000 then some (rulesP p U) else none
theorem rulesW_succ (U : List T) (r : Rl) (i : Nat) (c : List Gl) (w : Nat) : rulesW U r i c (w + 1) = rulesW U r i c w ++ (ruleAt U r i c w).toList := by
  rw [rulesW, List.range_succ, List.filterMap_append]
  cases h : ruleAt U r i c w <;> simp [h, rulesW]
theorem rulesC_succ {U : List T} {r : Rl} {L : List (List Gl)} {k : Nat} {c : List Gl} (h : L[k]? = some c) : rulesC U r L (k + 1) = rulesC U r L k ++ rulesW U r k c (U.length ^ (r.arity + r.locals).toNat) := by
  rw [rulesC, List.range_succ, List.flatMap_append]
  congr 1
  simp [List.getD_eq_getElem?_getD, h]
theorem rulesP_take {p : Pg} {U : List T} {i : Nat} {r : Rl} (h : p.rels[i]? = some r) : (p.rels.take (i + 1)).flatMap (rulesR U) = (p.rels.take i).flatMap (rulesR U) ++ rulesR U r := by
  rw [List.take_add_one, h, Option.toList_some, List.flatMap_append]
  simp
/-! ### Firing -/
/-- What rules make of a base. -/
inductive Der (rs : List Ru) (base : List F) : F → Prop
  | base {f : F} (h : f ∈ base) : Der rs base f
  | rule {r : Ru} (h : r ∈ rs) (hp : ∀ f ∈ r.pos, Der rs base f) : Der rs base r.head
end Go.Vx

/- Contracts: substitutions compared. -/
namespace Go.Vx
open Go.Proofs Classical
theorem cmpList_end {α : Type} {c : α → α → Int} {l m : List α} {i : Nat} (h : ¬ (i < l.length ∧ i < m.length)) (h2 : i ≤ l.length) (h3 : i ≤ m.length) (e : cmpList c (l.drop i) (m.drop i) = cmpList c l m) : cmpList c l m = cInt l.length m.length := by
  rw [← e]
  rcases Nat.lt_or_ge i l.length with k | k
  · obtain rfl : i = m.length := by omega
    rw [List.drop_length]
    have hv_ := at_some k
    obtain ⟨x, hx⟩ := hv_
    rw [drop_at hx, cmpList, cInt, if_neg (by omega), decide_eq_false (by omega)]
    rfl
  · obtain rfl : i = l.length := by omega
    rw [List.drop_length]
    rcases Nat.eq_or_lt_of_le h3 with k2 | k2
    · rw [k2, List.drop_length, cmpList, cInt, if_pos rfl]
    · have hv_ := at_some k2
      obtain ⟨x, hx⟩ := hv_
      rw [drop_at hx, cmpList, cInt, if_neg (by omega), decide_eq_true (by omega)]
      rfl
theorem lexI_ne {p q : Int} (h : p ≠ 0) : lexI p q = p := by rw [lexI, if_neg h]
theorem lexI_eq {p q : Int} (h : p = 0) : lexI p q = q := by rw [lexI, if_pos h]
section
variable {μ : Mem}
theorem orderInts_any (a b : Int) : Gives Tryz.prog 319 [.int .i64 a, .int .i64 b] μ (.int .i64 (cInt a b)) := by
  by_cases h : a = b
  · rw [cInt, if_pos h]
    refine Spec.mk Tryz.func319 (by kernel_rfl) ?_
    refine ifd (fun h1 => by omega) (fun h1 => ?_)
    exact ifd (fun h2 => by omega) (fun h2 => ret_gives rfl rfl)
  · rw [cInt, if_neg h]; exact orderInts_spec a b h
end
end Go.Vx

/- Contracts: lists of terms and facts compared, both sides. -/
namespace Go.Vx
open Go.Proofs Classical
section
variable {μ : Mem}
theorem T.elemL {xs : List T} {base : Option Addr} {n : Nat} (h : Sl μ 4 base n ((xs.map T.tm).map Tm.d)) {i : Nat} {x : T} (hx : xs[i]? = some x) : ∃ ad, ∃ p : Option Addr × Nat, ElemAt μ base n 4 i ad (x.tm.cs p) ∧ RepV μ x.tm.d (.agg (x.tm.cs p).toArray) :=
  Tm.elem h (by simp [hx])
theorem orderTermLists_spec {xs ys : List T} {base base2 : Option Addr} {cap cap2 : Nat} (hsl : Sl μ 4 base xs.length ((xs.map T.tm).map Tm.d)) (hsl2 : Sl μ 4 base2 ys.length ((ys.map T.tm).map Tm.d)) :
    Gives Tryz.prog 310 [.slice base xs.length cap, .slice base2 ys.length cap2] μ (.int .i64 (cmpL xs ys)) := by
  refine Spec.mk Tryz.func310 (by kernel_rfl) ?_
  have hm1 := maxLen_le hsl.max
  have hm2 := maxLen_le hsl2.max
  refine loop_intro (fun i : Nat => i ≤ xs.length ∧ i ≤ ys.length ∧ cmpL (xs.drop i) (ys.drop i) = cmpL xs ys)
    (fun i => ⟨[(0, .val (.slice base xs.length cap)), (1, .val (.slice base2 ys.length cap2)), (5, .val (.int .i64 i))], [], 0, μ, Mem.nil⟩) (fun i => xs.length - i)
    0 ⟨Nat.zero_le _, Nat.zero_le _, rfl⟩ (fun _ => ⟨rfl, rfl⟩) ⟨⟨rfl, rfl, rfl, trivial⟩, trivial, rfl, rfl⟩ ?_
  rintro i ⟨hi, hj, hJ⟩
  have fin : ¬ (i < xs.length ∧ i < ys.length) → cmpL xs ys = cInt xs.length ys.length := fun h => cmpList_end h hi hj hJ
  refine ifd (fun h1 => ?_) (fun h1 => ?_)
  · refine ifd (fun h2 => ?_) (fun h2 => ?_)
    · have hv_ := at_some (l := xs) (i := i) (by omega)
      obtain ⟨x, hx⟩ := hv_
      have hv_ := at_some (l := ys) (i := i) (by omega)
      obtain ⟨y, hy⟩ := hv_
      have hv_ := T.elemL hsl hx
      obtain ⟨ad, p, hel, hto⟩ := hv_
      have hv_ := T.elemL hsl2 hy
      obtain ⟨ad2, p2, hel2, hto2⟩ := hv_
      rw [drop_at hx, drop_at hy, cmpL, cmpList] at hJ
      refine elem_intro hel (elem_intro hel2 ?_)
      refine call_gives (orderTerms_spec _ _ hto hto2) ?_
      refine ifnd (fun h5 => ?_) (fun h5 => ?_)
      · rw [lexI_ne h5] at hJ
        exact ret_gives (congrArg (Value.int .i64) hJ) rfl
      · rw [lexI_eq h5] at hJ
        exact num64 (by omega) (by omega) ⟨i + 1, ⟨by omega, by omega, hJ⟩, by omega, ⟨⟨rfl, rfl, rfl, trivial⟩, trivial, rfl, rfl⟩⟩
    · refine call_gives (orderInts_any _ _) ?_
      exact ret_gives (by rw [fin (by omega)]) rfl
  · refine call_gives (orderInts_any _ _) ?_
    exact ret_gives (by rw [fin (by omega)]) rfl
theorem l02CmpAll_spec {xs ys : List T} {base base2 : Option Addr} {cap cap2 : Nat} (hsl : Sl μ 4 base xs.length ((xs.map T.tm).map Tm.d)) (hsl2 : Sl μ 4 base2 ys.length ((ys.map T.tm).map Tm.d)) :
    Gives Tryz.prog 230 [.slice base xs.length cap, .slice base2 ys.length cap2] μ (.int .i64 (cmpL xs ys)) := by
  refine Spec.mk Tryz.func230 (by kernel_rfl) ?_
  have hm1 := maxLen_le hsl.max
  have hm2 := maxLen_le hsl2.max
  refine loop_intro (fun i : Nat => i ≤ xs.length ∧ i ≤ ys.length ∧ cmpL (xs.drop i) (ys.drop i) = cmpL xs ys)
    (fun i => ⟨[(0, .val (.slice base xs.length cap)), (1, .val (.slice base2 ys.length cap2)), (5, .val (.int .i64 i))], [], 0, μ, Mem.nil⟩) (fun i => xs.length - i)
    0 ⟨Nat.zero_le _, Nat.zero_le _, rfl⟩ (fun _ => ⟨rfl, rfl⟩) ⟨⟨rfl, rfl, rfl, trivial⟩, trivial, rfl, rfl⟩ ?_
  rintro i ⟨hi, hj, hJ⟩
  have fin : ¬ (i < xs.length ∧ i < ys.length) → cmpL xs ys = cInt xs.length ys.length := fun h => cmpList_end h hi hj hJ
  refine ifd (fun h1 => ?_) (fun h1 => ?_)
  · refine ifd (fun h2 => ?_) (fun h2 => ?_)
    · have hv_ := at_some (l := xs) (i := i) (by omega)
      obtain ⟨x, hx⟩ := hv_
      have hv_ := at_some (l := ys) (i := i) (by omega)
      obtain ⟨y, hy⟩ := hv_
      have hv_ := T.elemL hsl hx
      obtain ⟨ad, p, hel, hto⟩ := hv_
      have hv_ := T.elemL hsl2 hy
      obtain ⟨ad2, p2, hel2, hto2⟩ := hv_
      rw [drop_at hx, drop_at hy, cmpL, cmpList] at hJ
      refine elem_intro hel (elem_intro hel2 ?_)
      refine call_gives (l02Cmp_spec _ _ hto hto2) ?_
      refine ifnd (fun h5 => ?_) (fun h5 => ?_)
      · rw [lexI_ne h5] at hJ
        exact ret_gives (congrArg (Value.int .i64) hJ) rfl
      · rw [lexI_eq h5] at hJ
        exact num64 (by omega) (by omega) ⟨i + 1, ⟨by omega, by omega, hJ⟩, by omega, ⟨⟨rfl, rfl, rfl, trivial⟩, trivial, rfl, rfl⟩⟩
    · have hf := fin (by omega)
      refine ifnd (fun h3 => ?_) (fun h3 => ?_)
      · refine call_gives (l02Sign_spec _) ?_
        exact ret_gives (by rw [hf, cInt, if_neg h3]) rfl
      · exact ret_gives (by rw [hf, cInt, if_pos h3]) rfl
  · have hf := fin (by omega)
    refine ifnd (fun h3 => ?_) (fun h3 => ?_)
    · refine call_gives (l02Sign_spec _) ?_
      exact ret_gives (by rw [hf, cInt, if_neg h3]) rfl
    · exact ret_gives (by rw [hf, cInt, if_pos h3]) rfl
/-! ### Facts -/
theorem F.inv {f : F} {v : Value} (h : RepV μ f.fc.d v) : ∃ p : Fc.P, v = .agg #[.string f.rel, .slice p.1 f.args.length p.2] ∧ Sl μ 4 p.1 f.args.length ((f.args.map T.tm).map Tm.d) := by
  have hv_ := Fc.inv h
  obtain ⟨p, rfl, hA⟩ := hv_
  have e : f.fc.args.length = f.args.length := List.length_map ..
  have hA : Sl μ 4 p.1 f.fc.args.length ((f.args.map T.tm).map Tm.d) := hA
  rw [e] at hA ⊢
  exact ⟨p, rfl, hA⟩
def F.cs (f : F) (p : Fc.P) : List Value := [.string f.rel, .slice p.1 f.args.length p.2]
theorem F.elem {l : List F} {base : Option Addr} {n : Nat} (h : Sl μ 2 base n ((l.map F.fc).map Fc.d)) {i : Nat} {f : F} (hf : l[i]? = some f) : ∃ ad, ∃ p : Fc.P, ElemAt μ base n 2 i ad (f.cs p) ∧ RepV μ f.fc.d (.agg (f.cs p).toArray) ∧ Sl μ 4 p.1 f.args.length ((f.args.map T.tm).map Tm.d) := by
  have hv_ := Fc.elemA h (i := i) (x := f.fc) (by simp [hf])
  obtain ⟨ad, p, h1, h2, h3⟩ := hv_
  have e : f.fc.cs p = f.cs p := by
    show [_, Value.slice p.1 (f.args.map T.tm).length p.2] = _
    rw [List.length_map]; rfl
  rw [e] at h1 h2
  have h3 : Sl μ 4 p.1 (f.args.map T.tm).length ((f.args.map T.tm).map Tm.d) := h3
  rw [List.length_map] at h3
  exact ⟨ad, p, h1, h2, h3⟩
theorem F.mkV {f : F} {b : Option Addr} {c : Nat} (h : RepV μ (.sl 4 ((f.args.map T.tm).map Tm.d)) (.slice b f.args.length c)) : RepV μ f.fc.d (.agg #[.string f.rel, .slice b f.args.length c]) := by
  rw [Fc.d_eq]
  exact ⟨_, rfl, RepS.str (RepS.last h)⟩
theorem orderFacts_spec {f g : F} {v w : Value} (hv : RepV μ f.fc.d v) (hw : RepV μ g.fc.d w) : Gives Tryz.prog 251 [v, w] μ (.int .i64 (cmpF f g)) := by
  have hv_ := F.inv hv
  obtain ⟨p, rfl, hs⟩ := hv_
  have hv_ := F.inv hw
  obtain ⟨q, rfl, hs2⟩ := hv_
  refine Spec.mk Tryz.func251 (by kernel_rfl) ?_
  intro r1 r2
  rw [cmpF]
  refine ifnd (fun h => ?_) (fun h => ?_)
  · have e : lexI (cName f.rel g.rel) (cmpL f.args g.args) = sgn (Op.bytesLess f.rel.data.toList g.rel.data.toList) := by
      rw [lexI_ne (fun k => h ((cName_ord.zero _ _).1 k)), cName, if_neg h]
    rw [e]
    refine if_intro (fun h4 => ret_gives ?_ rfl) (fun h4 => ret_gives ?_ rfl)
    · rw [h4]; rfl
    · rw [h4]; rfl
  · rw [lexI_eq ((cName_ord.zero _ _).2 h)]
    refine call_gives (orderTermLists_spec hs hs2) ?_
    exact ret_gives rfl rfl
theorem l18Cmp_spec {f g : F} {v w : Value} (hv : RepV μ f.fc.d v) (hw : RepV μ g.fc.d w) : Gives Tryz.prog 161 [v, w] μ (.int .i64 (cmpF f g)) := by
  have hv_ := F.inv hv
  obtain ⟨p, rfl, hs⟩ := hv_
  have hv_ := F.inv hw
  obtain ⟨q, rfl, hs2⟩ := hv_
  refine Spec.mk Tryz.func161 (by kernel_rfl) ?_
  intro r1 r2
  rw [cmpF]
  refine ifnd (fun h => ?_) (fun h => ?_)
  · have e : lexI (cName f.rel g.rel) (cmpL f.args g.args) = sgn (Op.bytesLess f.rel.data.toList g.rel.data.toList) := by
      rw [lexI_ne (fun k => h ((cName_ord.zero _ _).1 k)), cName, if_neg h]
    rw [e]
    refine call_gives (l02Sign_spec _) ?_
    exact ret_gives rfl rfl
  · rw [lexI_eq ((cName_ord.zero _ _).2 h)]
    refine call_gives (l02CmpAll_spec hs hs2) ?_
    exact ret_gives rfl rfl
end
end Go.Vx

/- Contracts: reified terms, both sides. -/
namespace Go.Vx
open Go.Proofs Classical
/-! ### Plain -/
noncomputable def fits (bs : List B) (x : T) : Option T := fit (x.subst (sub bs))
section
variable {μ : Mem}
end
end Go.Vx

/- Contracts: goals copied and instantiated, the reference's side. -/
namespace Go.Vx
open Go.Proofs Classical
/-! ### Plain -/
mutual
noncomputable def Gl.put (f : Int → Option T) : Gl → Gl
  | .mk k s ts gs => .mk k s (ts.map fun t => (t.toT.subst f).tm) (Gl.puts f gs)
noncomputable def Gl.puts (f : Int → Option T) : List Gl → List Gl
  | [] => []
  | g :: r => g.put f :: Gl.puts f r
end
theorem Gl.puts_map (f : Int → Option T) : ∀ l : List Gl, Gl.puts f l = l.map (Gl.put f)
  | [] => rfl
  | t :: r => by simp [Gl.puts, Gl.puts_map f r]
theorem Gl.put_kind (f : Int → Option T) (g : Gl) : (g.put f).kind = g.kind := by cases g; rfl
theorem Gl.put_name (f : Int → Option T) (g : Gl) : (g.put f).name = g.name := by cases g; rfl
theorem Gl.put_terms (f : Int → Option T) (g : Gl) : (g.put f).terms = g.terms.map fun t => (t.toT.subst f).tm := by cases g; rfl
theorem Gl.put_goals (f : Int → Option T) (g : Gl) : (g.put f).goals = g.goals.map (Gl.put f) := by cases g; rw [Gl.put]; exact Gl.puts_map f _
theorem toTs_tm {xs : List T} : (xs.map T.tm).map Tm.toT = xs := by
  rw [List.map_map]
  exact (List.map_congr_left fun x _ => T.toT_tm x).trans (List.map_id _)
section
variable {μ : Mem}
theorem l13Put_spec {bs : List B} {b0 : Option Addr} {c0 : Nat} : ∀ (g : Gl) {μ : Mem} {v : Value}, RepV μ g.d v → g.Sh → Sl μ 5 b0 bs.length ((bs.map B.bd).map Bd.d) → Spec Tryz.prog 116 [v, .slice b0 bs.length c0] μ fun v μ' => RepV μ' (g.put (sub bs)).d v :=
  Gl.ind fun g ih μ v hv hS hsl => by
    have hv_ := Gl.inv hv
    obtain ⟨p, rfl, hts, hgs⟩ := hv_
    have hv_ := lift_ok hS.top.tm
    obtain ⟨xs, hxs, hok⟩ := hv_
    have hg8 := hS.top.gl
    have hx4 : xs.length ≤ 4 := by
      have T := hS.top
      have e9 := T.ln9; have e2 := T.ln2; have e1 := T.ln1; have e0 := T.ln0; have k0 := T.k0; have k1 := T.k1
      have : g.terms.length = xs.length := by rw [hxs, List.length_map]
      omega
    have hput : (g.put (sub bs)).d = .st [.i g.kind, .s g.name, .sl 4 (((xs.map (T.subst (sub bs))).map T.tm).map Tm.d), .sl 4 ((g.goals.map (Gl.put (sub bs))).map Gl.d)] := by
      rw [Gl.d_eq, Gl.put_kind, Gl.put_name, Gl.put_goals, Gl.put_terms, hxs]
      simp [List.map_map, Function.comp_def, T.toT_tm]
    rw [hxs, List.length_map] at hts ⊢
    refine Spec.mk Tryz.func116 (by kernel_rfl) ?_
    intro r1 r2 r3
    refine loop_nil (fun p : Nat × Option Nat × Nat × List Value × Mem => p.1 ≤ xs.length ∧ μ.Le p.2.2.2.2 ∧ Rows p.2.2.2.2 4 ((((xs.take p.1).map (T.subst (sub bs))).map T.tm).map Tm.d) p.2.2.2.1)
      (fun (i, b, c, ys, μ') => ⟨[(1, .val (.slice b0 bs.length c0)), (2, .loc 0 r1 0), (4, .loc 1 r2 0), (5, .loc 2 r3 0), (16, .val (.slice p.1.1 xs.length p.1.2)), (17, .val (.int .i64 xs.length)), (18, .val (.int .i64 i))],
        [(0, some (.cells r1 [.val (.int .i64 g.kind), .val (.string g.name), .val (.slice p.1.1 xs.length p.1.2), .val (.slice p.2.1 g.goals.length p.2.2)] 55)), (1, some (.cells r2 [.val (.int .i64 0), .val (.string ⟨#[]⟩), .val (.slice none 0 0), .val (.slice none 0 0)] 55)), (2, some (.cells r3 [.val (.int .i64 g.kind), .val (.string g.name), .row 3 b ys.length c, .val (.slice none 0 0)] 55)), (3, some (.row b c 44 4 ys))], 4, μ', Mem.nil⟩) (fun p => xs.length - p.1)
      (0, none, 0, [], μ) ⟨by simp, Mem.Le.refl _, .nil⟩ (fun (_, _, _, _, _) => ⟨rfl, rfl⟩) ⟨⟨⟨_, rfl, .inl rfl⟩, ⟨_, rfl, .inl rfl⟩, ⟨_, rfl, .inl rfl⟩, ⟨_, rfl, .inl rfl⟩, ⟨_, rfl, .inl rfl⟩, ⟨_, rfl, .inl rfl⟩, ⟨_, rfl, .inl rfl⟩, trivial⟩, ⟨.inl rfl, .inl rfl, .inr (.inr ⟨_, _, _, _, rfl, rfl, .inl rfl, .inl rfl, .inr ⟨3, rfl, rfl, Nat.le_refl _⟩, .inl rfl, trivial⟩), .inr (.inl ⟨_, _, rfl, Nat.le_refl _⟩), trivial⟩, rfl, rfl⟩ ?_
    rintro ⟨i, b, c, ys, μ'⟩ ⟨hi, hle, hrows⟩
    dsimp only at hi hle hrows
    have hlen := hrows.len
    simp only [List.length_map, List.length_take] at hlen
    refine ifd (fun h => ?_) (fun h => ?_)
    · have hv_ := at_some (l := xs) (i := i) (by omega)
      obtain ⟨t, ht⟩ := hv_
      have ht' : (xs.map T.tm)[i]? = some t.tm := by simp [ht]
      have hv_ := Tm.elem (hts.mono hle) ht'
      obtain ⟨ad, p3, hel, hr⟩ := hv_
      refine elem_intro hel ?_
      intro r4
      refine call_plain (l04Put_spec t (hsl.mono hle) hr) fun v' μ'' hle2 hR => ?_
      have hv_ := Tm.invV hR
      obtain ⟨q, rfl⟩ := hv_
      intro r5
      refine grow_intro ?_ ?_ fun b' c' _ => ?_
      · show (ys.length + 1) * 56 ≤ _; omega
      · exact Nat.le_trans (m := 100000000) (show ys.length + 1 ≤ _ by omega) (by decide)
      refine num64 (by omega) (by omega) ⟨(i + 1, b', c', _, μ''), ⟨by dsimp only; omega, hle.trans hle2, ?_⟩, by dsimp only; omega, ⟨⟨rfl, rfl, rfl, rfl, rfl, rfl, rfl, trivial⟩, ⟨rfl, rfl, rfl, rfl, trivial⟩, rfl, rfl⟩⟩
      dsimp only
      rw [List.take_add_one, ht, Option.toList_some]
      simp only [List.map_append, List.map_cons, List.map_nil]
      exact (hrows.mono hle2).append (Rows.one hR (Tm.d_n _))
    · obtain rfl : i = xs.length := by omega
      rw [List.take_length] at hrows
      have hgs1 := hgs.mono hle
      refine loop_nil (fun p : Nat × Option Nat × Nat × List Value × Mem => p.1 ≤ g.goals.length ∧ μ'.Le p.2.2.2.2 ∧ Rows p.2.2.2.2 4 (((g.goals.take p.1).map (Gl.put (sub bs))).map Gl.d) p.2.2.2.1)
        (fun (i, b2, c2, zs, μ'') => ⟨[(1, .val (.slice b0 bs.length c0)), (4, .loc 1 r2 0), (5, .loc 2 r3 0), (32, .val (.slice p.2.1 g.goals.length p.2.2)), (33, .val (.int .i64 g.goals.length)), (34, .val (.int .i64 i))],
          [(1, some (.cells r2 [.val (.int .i64 0), .val (.string ⟨#[]⟩), .val (.slice none 0 0), .val (.slice none 0 0)] 55)), (2, some (.cells r3 [.val (.int .i64 g.kind), .val (.string g.name), .row 3 b ys.length c, .row 4 b2 zs.length c2] 55)), (3, some (.row b c 44 4 ys)), (4, some (.row b2 c2 55 4 zs))], 5, μ'', Mem.nil⟩) (fun p => g.goals.length - p.1)
        (0, none, 0, [], μ') ⟨by simp, Mem.Le.refl _, .nil⟩ (fun (_, _, _, _, _) => ⟨rfl, rfl⟩) ⟨⟨⟨_, rfl, .inl rfl⟩, ⟨_, rfl, .inl rfl⟩, ⟨_, rfl, .inl rfl⟩, ⟨_, rfl, .inl rfl⟩, ⟨_, rfl, .inl rfl⟩, ⟨_, rfl, .inl rfl⟩, trivial⟩, ⟨.inl rfl, .inr (.inr ⟨_, _, _, _, rfl, rfl, .inl rfl, .inl rfl, .inl rfl, .inr ⟨4, rfl, rfl, Nat.le_refl _⟩, trivial⟩), .inl rfl, .inr (.inl ⟨_, _, rfl, Nat.le_refl _⟩), trivial⟩, rfl, rfl⟩ ?_
      rintro ⟨i, b2, c2, zs, μ''⟩ ⟨hi, hle3, hrows2⟩
      dsimp only at hi hle3 hrows2
      have hlen2 := hrows2.len
      simp only [List.length_map, List.length_take] at hlen2
      refine ifd (fun h => ?_) (fun h => ?_)
      · have hv_ := at_some (l := g.goals) (i := i) (by omega)
        obtain ⟨t, ht⟩ := hv_
        have hv_ := Gl.elem (hgs1.mono hle3) ht
        obtain ⟨ad, p3, hel, hr⟩ := hv_
        refine elem_intro hel ?_
        intro r4
        refine call_plain (ih t (mem_at ht) hr (hS.sub t (mem_at ht)) ((hsl.mono hle).mono hle3)) fun v' μ3 hle4 hR => ?_
        have hv_ := Gl.invV hR
        obtain ⟨q, rfl⟩ := hv_
        intro r5
        refine grow_intro ?_ ?_ fun b' c' _ => ?_
        · show (zs.length + 1) * 72 ≤ _; omega
        · exact Nat.le_trans (m := 100000000) (show zs.length + 1 ≤ _ by omega) (by decide)
        refine num64 (by omega) (by omega) ⟨(i + 1, b', c', _, μ3), ⟨by dsimp only; omega, hle3.trans hle4, ?_⟩, by dsimp only; omega, ⟨⟨rfl, rfl, rfl, rfl, rfl, rfl, trivial⟩, ⟨rfl, rfl, rfl, rfl, trivial⟩, rfl, rfl⟩⟩
        dsimp only
        rw [List.take_add_one, ht, Option.toList_some]
        simp only [List.map_append, List.map_cons, List.map_nil]
        exact (hrows2.mono hle4).append (Rows.one hR (Gl.d_n _))
      · obtain rfl : i = g.goals.length := by omega
        rw [List.take_length] at hrows2
        refine ret_frz [3, 4] fun μ2 hle5 hno hrow => fun μ3 hle6 hno2 hrow2 => .inl ?_
        rw [hput]
        exact ⟨_, rfl, RepS.int (RepS.str (RepS.cons1 ((Rows.sl hrow (((hrows.mono hle3)).mono hle5) (Nat.le_trans (m := 100000000) (by omega) (by decide))).mono hle6) (RepS.last (Rows.sl hrow2 ((hrows2.mono hle5).mono hle6) (Nat.le_trans (m := 100000000) (by omega) (by decide))))))⟩
end
end Go.Vx

/- Contracts: a row sorted by its owner's functions: insertion, turning round, a heap. -/
namespace Go.Vx
open Go.Proofs Classical
open Go.Sort
/-- What those functions do: J d is the owned memory that holds the row d. -/
structure SortBy {α : Type} [Inhabited α] (lf sf : FuncId) (lb sb : List Value) (n : Nat) (lt : α → α → Bool) (μ0 : Mem) (J : Array α → Mem) (V : Array α → Prop) : Prop where
  max : n ≤ 1000000000000
  size : ∀ {d}, V d → d.size = n
  sw : ∀ {d : Array α} {i j : Nat}, V d → i < n → j < n → V (swp d i j)
  dom : ∀ {d d' : Array α} {b : Nat}, V d → V d' → J d b = none → J d' b = none
  less : ∀ {μ : Mem} {d : Array α} {i j : Nat}, μ0.Le μ → V d → i < n → j < n → SpecH Tryz.prog lf (.int .i64 i :: .int .i64 j :: lb) μ (J d) fun v μ' h' => v = .bool (lt d[i]! d[j]!) ∧ μ' = μ ∧ h' = J d
  swap : ∀ {μ : Mem} {d : Array α} {i j : Nat}, μ0.Le μ → V d → i < n → j < n → SpecH Tryz.prog sf (.int .i64 i :: .int .i64 j :: sb) μ (J d) fun v μ' h' => v = .tuple #[] ∧ μ' = μ ∧ h' = J (swp d i j)
section
variable {α : Type} [Inhabited α] {lf sf : FuncId} {lb sb : List Value} {n : Nat} {lt : α → α → Bool} {μ0 : Mem} {J : Array α → Mem} {V : Array α → Prop} {μ : Mem} {d : Array α}
end
end Go.Vx

/- Contracts: the choice of a pivot, by the owner's functions. -/
namespace Go.Vx
open Go.Proofs Classical
open Go.Sort
theorem parts_set {g : Mem} {r : Nat} {o : Obj} (h : g r = none) : Parts (g.set r o) (Mem.nil.set r o) g := fun b => by
  by_cases e : b = r
  · subst e; exact .inl ⟨by rw [Mem.set_at, Mem.set_at], h⟩
  · exact .inr ⟨by rw [Mem.set_ne e], by rw [Mem.set_ne e]; rfl⟩
section
variable {α : Type} {J : Array α → Mem} {μ : Mem} {d : Array α} {rs : Nat} {s : Int}
end
section
variable {α : Type} [Inhabited α] {lf sf : FuncId} {lb sb : List Value} {n : Nat} {lt : α → α → Bool} {μ0 : Mem} {J : Array α → Mem} {V : Array α → Prop} {μ : Mem} {d : Array α} {rs : Nat} {s : Int}
/-- The same beside a block of one's own. -/
theorem SortBy.beside (H : SortBy lf sf lb sb n lt μ0 J V) (o : Obj) (h : ∀ d, V d → J d rs = none) : SortBy lf sf lb sb n lt μ0 (fun d => (J d).set rs o) V where
  max := H.max
  size := H.size
  sw := H.sw
  dom hV hV' hb := by
    simp only [Mem.set_get] at hb ⊢
    split at hb
    · cases hb
    · rename_i e; rw [if_neg e]; exact H.dom hV hV' hb
  less hle hV hi hj := (SpecH.frame (parts_set (h _ hV)).symm (H.less hle hV hi hj)).weaken fun v μ' h' _ _ ⟨g, ⟨e1, e2, e3⟩, p⟩ => ⟨e1, e2, by rw [e3] at p; exact p.eq (parts_set (h _ hV)).symm⟩
  swap hle hV hi hj := (SpecH.frame (parts_set (h _ hV)).symm (H.swap hle hV hi hj)).weaken fun v μ' h' _ _ ⟨g, ⟨e1, e2, e3⟩, p⟩ => ⟨e1, e2, by rw [e3] at p; exact p.eq (parts_set (h _ (H.sw hV hi hj))).symm⟩
end
end Go.Vx

/- Contracts: what sort.Slice asks of package reflectlite; rows in owned memory that are changed about by it. -/
namespace Go.Vx
open Go.Proofs Classical
open Go.Sort
open Go.Extern Go.Extern.Rtype Go.RowKit Go.Lib
section
variable {P : Program} {f : FuncId} {args : List Value} {μ h0 : Mem}
/-- A function that answers at once. -/
theorem SpecH.ext {R : Value → Mem → Mem → Prop} (h : ∀ w, Holds μ w → Holds h0 w → Apart μ h0 → ∃ v w' μ' h', (callFunc f args.toArray).run P w = .ok (.value v) w' ∧ R v μ' h' ∧ Step μ h0 w μ' h' w') : SpecH P f args μ h0 R :=
  ⟨trivial, fun w h1 h2 h3 => by
    have hv_ := h w h1 h2 h3
    obtain ⟨v, w', μ', h', e, hr, hS⟩ := hv_
    exact .inr ⟨v, w', e, v, μ', h', rfl, hr, hS⟩⟩
theorem Step.same {w : World} (h1 : Holds μ w) (h2 : Holds h0 w) (h3 : Apart μ h0) : Step μ h0 w μ h0 w :=
  ⟨Mem.Le.refl _, h1, h2, h3, fun b h h' => absurd h h', fun b h => .inr h, Nat.le_refl _, fun _ _ _ => rfl, rfl, rfl, rfl⟩
/-- A row of its own is written over. -/
theorem Step.row {w : World} {r : Nat} {cs cs' : Array Value} {ty : TypeId} (h1 : Holds μ w) (h2 : Holds h0 w) (h3 : Apart μ h0) (hr : h0 r = some (.cells cs ty (0, 0))) : Step μ h0 w μ (h0.set r (.cells cs' ty (0, 0))) (w.setRow r cs') := by
  have hne : ∀ b, μ b ≠ none → b ≠ r := fun b hb e => by
    subst e; rw [h3 b hb] at hr; cases hr
  have hg : w.heap[r]? = some (.cells cs ty (0, 0)) := h2 _ _ hr
  refine ⟨Mem.Le.refl _, fun b o hb => ?_, fun b o hb => ?_, fun b hb => ?_, fun b h h' => absurd h h', fun b h => ?_, by simp, fun b _ hb => setRow_other w r b _ fun e => ?_, rfl, rfl, rfl⟩
  · rw [setRow_other w r b _ (hne b (by simp [hb]))]; exact h1 b o hb
  · rw [Mem.set_get] at hb
    split at hb
    · rename_i e; subst e; cases hb; rw [setRow_heap w b _ _ ty (0, 0) hg]
    · rename_i e; rw [setRow_other w r b _ e]; exact h2 b o hb
  · rw [Mem.set_ne (hne b hb)]; exact h3 b hb
  · by_cases e : b = r
    · subst e; exact .inr (by rw [hr]; simp)
    · rw [Mem.set_ne e] at h; exact .inr h
  · subst e; rw [hr] at hb; cases hb
/-- A new block. -/
theorem Step.alloc {w : World} {o : Obj} (h1 : Holds μ w) (h2 : Holds h0 w) (h3 : Apart μ h0) : Step μ h0 w (μ.set w.heap.size o) h0 (w.alloc o) ∧ μ w.heap.size = none := by
  have hlt : ∀ b o, w.heap[b]? = some o → b < w.heap.size := fun b o h => (Array.getElem?_eq_some_iff.1 h).1
  have hm : μ w.heap.size = none := by
    cases e : μ w.heap.size with
    | none => rfl
    | some o => have := hlt _ _ (h1 _ _ e); omega
  have hh : h0 w.heap.size = none := by
    cases e : h0 w.heap.size with
    | none => rfl
    | some o => have := hlt _ _ (h2 _ _ e); omega
  have hk : ∀ b, b < w.heap.size → (w.alloc o).heap[b]? = w.heap[b]? := fun b hb => by
    show (w.heap.push o)[b]? = _
    rw [Array.getElem?_push, if_neg (by omega)]
  refine ⟨⟨fun b x hb => ?_, fun b x hb => ?_, fun b x hb => ?_, fun b hb => ?_, fun b h h' => ?_, fun b h => .inr h, by show w.heap.size ≤ (w.heap.push o).size; simp, fun b hb _ => hk b hb, rfl, rfl, rfl⟩, hm⟩
  · rw [Mem.set_ne (fun e => by subst e; rw [hm] at hb; cases hb)]; exact hb
  · rw [Mem.set_get] at hb
    split at hb
    · rename_i e; subst e; cases hb; show (w.heap.push o)[w.heap.size]? = some o; simp
    · rw [hk b (hlt _ _ (h1 _ _ hb))]; exact h1 _ _ hb
  · rw [hk b (hlt _ _ (h2 _ _ hb))]; exact h2 _ _ hb
  · rw [Mem.set_get] at hb
    split at hb
    · rename_i e; subst e; exact hh
    · exact h3 b hb
  · rw [Mem.set_get] at h'
    split at h'
    · rename_i e; subst e; exact .inl (Nat.le_refl _)
    · exact absurd h h'
end
/-- What the model is told of a slice type. -/
structure SlTy (t e : TypeId) (i ie : TypeInfo) (ke : Nat) : Prop where
  hi : Tryz.prog.info? t = some i
  hd : i.desc = .slice e
  pk : Tryz.prog.packed t = false
  hie : Tryz.prog.info? e = some ie
  hke : ∀ w, (Extern.Rtype.kind e).run Tryz.prog w = .ok ke w
  h9 : swapperK 2 ie ke = 9
section
variable {μ : Mem}
end
end Go.Vx

/- Contracts: sort.Slice over a row in owned memory. -/
namespace Go.Vx
open Go.Proofs Classical
open Go.Sort
open Go.Extern Go.Extern.Rtype Go.RowKit Go.Lib
/-- A row in owned memory: its elements' cells, then the rest of its block. -/
def RowV (h0 : Mem) (r : Nat) (ty : TypeId) (rest : List Value) (d : Array Value) : Mem := h0.set r (.cells (List.toArray (d.toList.flatMap vcells ++ rest)) ty (0, 0))
/-- Elements of es cells. -/
def Els (es : Nat) (d : Array Value) : Prop := ∀ x ∈ d.toList, (vcells x).length = es ∧ ∀ u ∈ vcells x, u.oneCell' = true
theorem flat_put {es : Nat} : ∀ {l : List Value}, (∀ y ∈ l, (vcells y).length = es) → ∀ {i : Nat}, i < l.length → ∀ {y : Value}, (vcells y).length = es → ∀ rest : List Value,
    (l.flatMap vcells ++ rest).take (i * es) ++ vcells y ++ (l.flatMap vcells ++ rest).drop (i * es + es) = (l.set i y).flatMap vcells ++ rest
  | [], _, i, hi, _, _, _ => by simp at hi
  | z :: r, hl, 0, _, y, hy, rest => by
    have hz := hl z (by simp)
    simp only [Nat.zero_mul, List.take_zero, List.nil_append, Nat.zero_add, List.set_cons_zero, List.flatMap_cons, List.append_assoc]
    rw [← hz, List.drop_left]
  | z :: r, hl, i + 1, hi, y, hy, rest => by
    have hz := hl z (by simp)
    have ih := flat_put (l := r) (fun y h => hl y (List.mem_cons_of_mem _ h)) (i := i) (by simpa using hi) hy rest
    simp only [List.set_cons_succ, List.flatMap_cons, List.append_assoc] at ih ⊢
    have e1 : (i + 1) * es = (vcells z).length + i * es := by rw [hz, Nat.add_mul, Nat.one_mul, Nat.add_comm]
    rw [e1, List.take_length_add_append, Nat.add_assoc, List.drop_length_add_append, List.append_assoc, ih]
theorem arrV_at {d : Array Value} {k : Nat} (h : k < d.size) : d.toList[k]? = some d[k]! := by
  rw [Array.getElem?_toList, getElem!_pos d k h, Array.getElem?_eq_getElem h]
theorem arrV_mem {d : Array Value} {k : Nat} (h : k < d.size) : d[k]! ∈ d.toList := List.mem_of_getElem? (arrV_at h)
theorem Els.perm {es n : Nat} {d d' : Array Value} (hn : d.size = n) (h : Els es d) (p : PermIn 0 n d d') : Els es d' := fun x hx => by
  have hv_ := List.mem_iff_getElem?.1 hx
  obtain ⟨i, hi⟩ := hv_
  have hi2 : i < d'.size := by have := (List.getElem?_eq_some_iff.1 hi).1; simpa using this
  rw [arrV_at hi2] at hi
  cases hi
  exact permIn_all d d' 0 n (fun x => (vcells x).length = es ∧ ∀ u ∈ vcells x, u.oneCell' = true) (by omega) p (fun j _ hj => h _ (arrV_mem (by omega))) i (by omega) (by rw [p.1] at hi2; omega)
section
variable {P : Program} {μ h0 : Mem} {r : Nat} {ty : TypeId} {rest : List Value} {d : Array Value} {es : Nat}
/-- A cell of an element is read. -/
theorem RowV.cell (hE : Els es d) {i c : Nat} {v : Value} (hi : i < d.size) (hv : (vcells d[i]!)[c]? = some v) : (RowV h0 r ty rest d).cell ⟨r, i * es + c, none⟩ = some v := by
  have h := flat_at (fun y hy => (hE y hy).1) (arrV_at hi) hv
  simp only [Mem.cell, RowV, Mem.set_at, Option.isSome_none]
  have h2 := (List.getElem?_eq_some_iff.1 h).1
  simp only [List.getElem?_toArray]
  rw [List.getElem?_append_left h2, h]
  rfl
theorem load_row {e : TypeId} {ti : TI} (hti : TIok P e ti) (w : World) (a : Addr) (x : Value) (hl : (vcells x).length = ti.size) (h : ∀ j v, (vcells x)[j]? = some v → w.cell? (a.add j) = some v) (h1 : ti.agg = false → ti.size = 1) (h2 : ∀ u ∈ vcells x, u.oneCell' = true) :
    ∃ y, (loadVar e a).run P w = .ok y w ∧ vcells y = vcells x := by
  have hr := run_loadVar_cells hti w a (vcells x) hl h h1
  refine ⟨_, hr, ?_⟩
  cases hg : ti.agg with
  | true => simp [vcells]
  | false =>
    rw [h1 hg] at hl
    match hc : vcells x, hl with
    | [u], _ =>
      have := h2 u (by rw [hc]; simp)
      simp only [Bool.false_eq_true, if_false, List.getD_cons_zero]
      cases u <;> first | rfl | (simp [Value.oneCell'] at this)
/-- Swapper's function: two elements change about. -/
theorem swap9_spec {e : TypeId} {ti : TI} (hti : TIok Tryz.prog e ti) (h1 : ti.agg = false → ti.size = 1) (hE : Els ti.size d) {n cap i j : Nat} (hd : d.size = n) (hi : i < n) (hj : j < n) :
    SpecH Tryz.prog 266 [.int .i64 i, .int .i64 j, .slice (some ⟨r, 0, none⟩) n cap, typeHandle Tryz.prog e] μ (RowV h0 r ty rest d) fun v μ' h' => v = .tuple #[] ∧ μ' = μ ∧ h' = RowV h0 r ty rest (swp d i j) := by
  refine SpecH.ext fun w hm hh ha => ?_
  subst hd
  have hX := hE _ (arrV_mem hi)
  have hY := hE _ (arrV_mem hj)
  have hcell : ∀ k, k < d.size → ∀ c v, (vcells d[k]!)[c]? = some v → w.cell? ((⟨r, k * ti.size, none⟩ : Addr).add c) = some v := fun k hk c v hv => by
    rw [Addr.add_lit']; exact hh.cell (RowV.cell hE hk hv)
  have hv_ := load_row hti w ⟨r, i * ti.size, none⟩ d[i]! hX.1 (hcell i hi) h1 hX.2
  obtain ⟨X, l1, eX⟩ := hv_
  have hv_ := load_row hti w ⟨r, j * ti.size, none⟩ d[j]! hY.1 (hcell j hj) h1 hY.2
  obtain ⟨Y, l2, eY⟩ := hv_
  have hb : ∀ k, k < d.size → k * ti.size + ti.size ≤ d.size * ti.size := fun k hk => by
    have := Nat.mul_le_mul_right ti.size (show k + 1 ≤ d.size from hk); rwa [Nat.add_mul, Nat.one_mul] at this
  have hlen : (d.toList.flatMap vcells).length = d.size * ti.size := by rw [flat_len _ fun y hy => (hE y hy).1]; simp
  have hg : w.heap[r]? = some (.cells (List.toArray (d.toList.flatMap vcells ++ rest)) ty (0, 0)) := hh _ _ (Mem.set_at _ _ _)
  have s1 := run_storeVar hti w r (i * ti.size) _ ty hg Y (by rw [eY]; exact hY.1) (by have := hb i hi; simp [hlen]; omega) (by rw [eY]; exact hY.2)
  have e1 := flat_put (fun y hy => (hE y hy).1) (l := d.toList) (i := i) (by simpa using hi) (y := d[j]!) hY.1 rest
  rw [eY, hY.1] at s1
  simp only [e1] at s1
  have hE2 : ∀ y ∈ d.toList.set i d[j]!, (vcells y).length = ti.size := fun y hy => by
    rcases List.mem_or_eq_of_mem_set hy with h | h
    · exact (hE y h).1
    · subst h; exact hY.1
  have hlen2 : ((d.toList.set i d[j]!).flatMap vcells).length = d.size * ti.size := by rw [flat_len _ hE2]; simp
  have hg2 : (w.setRow r (List.toArray ((d.toList.set i d[j]!).flatMap vcells ++ rest))).heap[r]? = some (.cells (List.toArray ((d.toList.set i d[j]!).flatMap vcells ++ rest)) ty (0, 0)) := setRow_heap w r _ _ ty (0, 0) hg
  have s2 := run_storeVar hti _ r (j * ti.size) _ ty hg2 X (by rw [eX]; exact hX.1) (by have := hb j hj; simp [hlen2]; omega) (by rw [eX]; exact hX.2)
  have e2 := flat_put hE2 (i := j) (by simpa using hj) (y := d[i]!) hX.1 rest
  rw [eX, hX.1] at s2
  simp only [e2] at s2
  have hsw : (d.toList.set i d[j]!).set j d[i]! = (swp d i j).toList := by rw [swp, Array.toList_setIfInBounds, Array.toList_setIfInBounds]
  rw [hsw] at s2
  have hss : ∀ z z', (w.setRow r z).setRow r z' = w.setRow r z' := fun z z' => setRow_setRow w r z z'
  have hS := Step.row (cs' := List.toArray ((swp d i j).toList.flatMap vcells ++ rest)) hm hh ha (Mem.set_at _ _ _)
  refine ⟨.tuple #[], w.setRow r (List.toArray ((swp d i j).toList.flatMap vcells ++ rest)), μ, RowV h0 r ty rest (swp d i j), ?_, ⟨rfl, rfl, rfl⟩, ?_⟩
  rotate_left
  · rw [RowV, Mem.set_set] at hS; exact hS
  rw [run_callFunc_extern Tryz.func266 (by kernel_rfl) (by kernel_rfl) (by kernel_rfl) (e := Extern.ReflectliteSwapper.swap false) (by kernel_rfl)]
  show (Sem.run _ (ReflectliteSwapper.swap false #[.int .i64 i, .int .i64 j, .slice (some ⟨r, 0, none⟩) d.size cap, typeHandle Tryz.prog e]) w).andThen _ = _
  have i0 : ¬ ((i : Int) < 0) := by omega
  have i1 : ¬ ((i : Int) ≥ d.size) := by omega
  have j0 : ¬ ((j : Int) < 0) := by omega
  have j1 : ¬ ((j : Int) ≥ d.size) := by omega
  rw [rl_swap]
  simp [i0, i1, j0, j1, ofHandle, handleType, typeHandle, ReflectliteSwapper.exchange, hti.run_sizeOf, Addr.add_lit', l1, l2, s1, s2, hss, Result.andThen]
end
section
variable {μ h0 : Mem} {lf sf : FuncId} {lb sb : List Value} {n : Nat}
end
section
variable {α : Type} [Inhabited α] {enc : α → Value} {μ h0 : Mem} {r : Nat} {ty t e : TypeId} {i ie : TypeInfo} {ke : Nat} {ti : TI} {rest : List Value} {d0 : Array α} {n cap : Nat} {lf : FuncId} {lb : List Value} {lt : α → α → Bool}
theorem map_get {d : Array α} {k : Nat} (h : k < d.size) : (d.map enc)[k]! = enc d[k]! := by
  rw [getElem!_pos _ k (by simpa using h), getElem!_pos d k h, Array.getElem_map]
theorem swp_map {d : Array α} {a b : Nat} (ha : a < d.size) (hb : b < d.size) : (swp d a b).map enc = swp (d.map enc) a b := by
  unfold swp
  rw [map_get hb, map_get ha]
  simp
theorem permIn_map {d d' : Array α} (hn : d.size = n) (p : PermIn 0 n d d') : PermIn 0 n (d.map enc) (d'.map enc) := by
  obtain ⟨h1, h2, h3⟩ := p
  refine ⟨by simp [h1], fun k hk => ?_, ?_⟩
  · have hk2 : n ≤ k := by omega
    rw [getElem!_neg _ k (by simp; omega), getElem!_neg _ k (by simp; omega)]
  · have e1 : d'.extract 0 n = d' := by rw [← hn, ← h1]; exact Array.extract_size
    have e2 : d.extract 0 n = d := by rw [← hn]; exact Array.extract_size
    have e3 : (d'.map enc).extract 0 n = d'.map enc := by rw [← hn, ← h1, show d'.size = (d'.map enc).size by simp]; exact Array.extract_size
    have e4 : (d.map enc).extract 0 n = d.map enc := by rw [← hn, show d.size = (d.map enc).size by simp]; exact Array.extract_size
    rw [e1, e2] at h3
    rw [e3, e4]
    simpa using h3.map enc
/-- A row of owned memory and its owner's test make a sort. -/
theorem SortBy.row (hti : TIok Tryz.prog e ti) (h1 : ti.agg = false → ti.size = 1) (hE : Els ti.size (d0.map enc)) (hn : d0.size = n) (hmax : n ≤ 1000000000000)
    (less : ∀ {μ' : Mem} {d : Array α} {i j : Nat}, μ.Le μ' → PermIn 0 n d0 d → i < n → j < n → SpecH Tryz.prog lf (.int .i64 i :: .int .i64 j :: lb) μ' (RowV h0 r ty rest (d.map enc)) fun v μ'' h' => v = .bool (lt d[i]! d[j]!) ∧ μ'' = μ' ∧ h' = RowV h0 r ty rest (d.map enc)) :
    SortBy lf 266 lb [.slice (some ⟨r, 0, none⟩) n cap, typeHandle Tryz.prog e] n lt μ (fun d => RowV h0 r ty rest (d.map enc)) (PermIn 0 n d0) where
  max := hmax
  size hV := hV.1.trans hn
  sw hV hi hj := permIn_trans _ _ _ _ _ hV (swp_permIn _ _ _ _ _ (Nat.zero_le _) hi (Nat.zero_le _) hj (by rw [hV.1, hn]; exact Nat.le_refl _))
  dom {d d' b} _ _ hb := by
    simp only [RowV, Mem.set_get] at hb ⊢
    split at hb
    · cases hb
    · rename_i e; rw [if_neg e]; exact hb
  less hle hV hi hj := less hle hV hi hj
  swap {μ d i j} hle hV hi hj := by
    have hs : d.size = n := hV.1.trans hn
    have := swap9_spec (μ := μ) (h0 := h0) (r := r) (ty := ty) (rest := rest) (cap := cap) hti h1 (d := d.map enc) (hE.perm (by simp [hn]) (permIn_map hn hV)) (by simpa using hs) hi hj
    rwa [← swp_map (by omega) (by omega)] at this
end
end Go.Vx

/- Rows of data that change places; impl.sortBindings. -/
namespace Go.Vx
open Go.Proofs Classical
open Go.Sort
/-- Elements with what they stand for. -/
structure Prs {X : Type} (es : Nat) (f : X → D) (ps : List (X × Value)) (g : Mem) : Prop where
  own : OwnRows es (ps.map fun p => f p.1) (ps.map Prod.snd) g
  size : ∀ p ∈ ps, (vcells p.2).length = es ∧ ∀ u ∈ vcells p.2, u.oneCell' = true
section
variable {X : Type} {es : Nat} {f : X → D} {g : Mem}
theorem Prs.uncons {p : X × Value} {ps : List (X × Value)} (h : Prs es f (p :: ps) g) : ∃ g1 g2, Parts g g1 g2 ∧ Own (f p.1) g1 (vcells p.2) ∧ (f p.1).n = es ∧ Prs es f ps g2 := by
  obtain ⟨⟨ho, hs, hl⟩, hz⟩ := h
  simp only [List.map_cons, List.flatMap_cons] at ho
  obtain ⟨c1, c2, g1, g2, e, hp, h1, h2⟩ := ho
  have hn : (f p.1).n = es := hs _ (by simp)
  have hz0 := (hz p (by simp)).1
  have := List.append_inj e (by rw [h1.len, hn, hz0])
  obtain ⟨rfl, rfl⟩ := this
  exact ⟨g1, g2, hp, h1, hn, ⟨h2, fun x hx => hs x (by simp only [List.map_cons]; exact List.mem_cons_of_mem _ hx), by simp⟩, fun q hq => hz q (List.mem_cons_of_mem _ hq)⟩
theorem Prs.cons {p : X × Value} {ps : List (X × Value)} {g1 g2 : Mem} (hp : Parts g g1 g2) (h1 : Own (f p.1) g1 (vcells p.2)) (hn : (f p.1).n = es) (hz : (vcells p.2).length = es ∧ ∀ u ∈ vcells p.2, u.oneCell' = true) (h : Prs es f ps g2) : Prs es f (p :: ps) g := by
  refine ⟨⟨?_, ?_, by simp⟩, ?_⟩
  · simp only [List.map_cons, List.flatMap_cons]
    exact OwnS.cons hp h1 h.own.own
  · intro x hx
    simp only [List.map_cons, List.mem_cons] at hx
    rcases hx with rfl | hx
    · exact hn
    · exact h.own.size x hx
  · intro q hq
    rcases List.mem_cons.1 hq with rfl | hq
    · exact hz
    · exact h.size q hq
theorem Prs.perm {ps ps' : List (X × Value)} (h : ps.Perm ps') : ∀ {g : Mem}, Prs es f ps g → Prs es f ps' g := by
  induction h with
  | nil => exact fun h => h
  | cons p _ ih =>
    intro g h
    obtain ⟨g1, g2, hp, h1, hn, h2⟩ := h.uncons
    exact Prs.cons hp h1 hn (h.size _ (by simp)) (ih h2)
  | swap p q l =>
    intro g h
    obtain ⟨g1, k, hp, h1, hn, h2⟩ := h.uncons
    obtain ⟨g2, g3, hq, h3, hn2, h4⟩ := h2.uncons
    have hv_ := Parts.assoc hp hq.symm
    obtain ⟨m, hm1, hm2⟩ := hv_
    exact Prs.cons hm2.symm h3 hn2 (h.size _ (by simp)) (Prs.cons hm1 h1 hn (h.size _ (by simp)) h4)
  | trans _ _ ih1 ih2 => exact fun h => ih2 (ih1 h)
theorem Prs.at : ∀ {ps : List (X × Value)} {g : Mem}, Prs es f ps g → ∀ p ∈ ps, ∃ g' : Mem, g'.Le g ∧ Own (f p.1) g' (vcells p.2)
  | [], _, _, p, hp => by simp at hp
  | q :: ps, g, h, p, hp => by
    obtain ⟨g1, g2, hpp, h1, _, h2⟩ := h.uncons
    rcases List.mem_cons.1 hp with rfl | hp
    · exact ⟨g1, hpp.left, h1⟩
    · have hv_ := Prs.at h2 p hp
      obtain ⟨g', h3, h4⟩ := hv_
      exact ⟨g', h3.trans hpp.right, h4⟩
end
section
variable {μ h0 : Mem} {r : Nat} {ty : TypeId} {rest : List Value} {es : Nat}
end
noncomputable instance : Inhabited B := ⟨⟨0, .nil⟩⟩
section
variable {μ h0 g : Mem} {r : Nat} {ty : TypeId} {rest : List Value}
end
end Go.Vx

/- Contracts: substitutions composed: the program's side. -/
namespace Go.Vx
open Go.Proofs Classical
open Go.Sort
/-! ### Plain -/
def AscB (l : List B) : Prop := l.Pairwise fun a b => a.var < b.var
theorem Srt.asc {bs : List B} (h : Srt bs) : AscB bs := by
  rw [AscB, List.pairwise_iff_getElem]
  intro i j hi hj hij
  exact h i j _ _ hij (by simp) (by simp)
theorem AscB.srt {bs : List B} (h : AscB bs) : Srt bs := fun i j b c hij hb hc => by
  rw [AscB, List.pairwise_iff_getElem] at h
  have hv_ := List.getElem?_eq_some_iff.1 hb
  obtain ⟨hi, rfl⟩ := hv_
  have hv_ := List.getElem?_eq_some_iff.1 hc
  obtain ⟨hj, rfl⟩ := hv_
  exact h i j hi hj hij
theorem AscB.nodup {l : List B} (h : AscB l) : (l.map B.var).Nodup := by
  rw [List.Nodup, List.pairwise_map]
  exact h.imp fun h => by omega
section
variable {μ : Mem}
theorem apartB {h : Mem} {r r' cap es : Nat} {ty : TypeId} {ys : List Value} (hb : RowO h r cap ty es ys) (hap : Apart μ h) (hor : r' = r ∨ (h r' = none ∧ μ r' = none)) : μ r' = none := by
  rcases hor with rfl | ⟨_, h2⟩
  · obtain ⟨cs, h1, _⟩ := hb
    cases e : μ r' with
    | none => rfl
    | some o => have := hap r' (by simp [e]); rw [h1] at this; cases this
  · exact h2
theorem Fresh.bd {μ' : Mem} {n : Int} {x : T} {q : Option Addr × Nat} (h : Fresh μ μ' x.tm.d (.agg (x.tm.cs q).toArray)) (hle : μ.Le μ') : Fresh μ μ' (B.bd ⟨n, x⟩).d (.agg (Value.int .i64 n :: x.tm.cs q).toArray) := by
  have := (FreshS.int (n := n) (FreshS.cons h hle (Mem.Le.refl _) FreshS.nil)).st
  have e : vcells (.agg (x.tm.cs q).toArray) ++ [] = x.tm.cs q := by simp [vcells]
  rw [e] at this
  exact this
set_option maxHeartbeats 4000000 in
end
end Go.Vx

/- Contracts: substitutions composed: the reference's side. -/
namespace Go.Vx
open Go.Proofs Classical
def GoodB (b : B) : Prop := b.to.good ∧ 0 ≤ b.var ∧ b.var ≤ 100000
theorem Vals.good {bs : List B} (h : Vals bs) : ∀ b ∈ bs, GoodB b := fun b hb => ⟨(h.tok b hb).1, h.var b hb⟩
theorem InsPos.asc {bs : List B} {b : B} {k : Nat} (h : AscB bs) (hk : InsPos bs b.var k) (hn : b.var ∉ bs.map B.var) : AscB (insAt bs b k) := by
  obtain ⟨hk0, hk1, hk2⟩ := hk
  unfold insAt AscB
  have h1 : ∀ a ∈ bs.take k, a.var < b.var := fun a ha => by
    have hv_ := List.mem_iff_getElem?.1 ha
    obtain ⟨i, hi⟩ := hv_
    have hik : i < k := by
      have := (List.getElem?_eq_some_iff.1 hi).1
      rw [List.length_take] at this; omega
    rw [List.getElem?_take_of_lt hik] at hi
    have hne : a.var ≠ b.var := fun e => hn (by rw [← e]; exact List.mem_map.2 ⟨a, mem_at hi, rfl⟩)
    have hv_ := at_some (l := bs) (i := k - 1) (by omega)
    obtain ⟨c, hc⟩ := hv_
    have h2 := hk1 c hc (by omega)
    rcases Nat.lt_or_ge i (k - 1) with h3 | h3
    · have := h.srt i (k - 1) a c h3 hi hc; omega
    · obtain rfl : i = k - 1 := by omega
      rw [hi] at hc; cases hc; omega
  have h2 : ∀ a ∈ bs.drop k, b.var < a.var := fun a ha => by
    have hv_ := List.mem_iff_getElem?.1 ha
    obtain ⟨i, hi⟩ := hv_
    rw [List.getElem?_drop] at hi
    exact hk2 (k + i) a (by omega) hi
  rw [List.pairwise_append, List.pairwise_append]
  refine ⟨h.sublist (List.take_sublist _ _), ⟨List.pairwise_singleton _ _, h.sublist (List.drop_sublist _ _), fun a ha c hc => ?_⟩, fun a ha c hc => ?_⟩
  · rw [List.mem_singleton] at ha; subst ha; exact h2 c hc
  · rcases List.mem_append.1 hc with hc | hc
    · rw [List.mem_singleton] at hc; subst hc; exact h1 a ha
    · have := h1 a ha; have := h2 c hc; omega
section
variable {μ : Mem}
theorem RepV.bd {n : Int} {x : T} {q : Option Addr × Nat} (h : RepV μ x.tm.d (.agg (x.tm.cs q).toArray)) : RepV μ (B.bd ⟨n, x⟩).d (.agg (Value.int .i64 n :: x.tm.cs q).toArray) := by
  have hc := RepV.cells h
  have e : vcells (.agg (x.tm.cs q).toArray) = x.tm.cs q := by simp [vcells]
  rw [e] at hc
  exact ⟨_, rfl, RepS.int (RepS.last hc)⟩
set_option maxHeartbeats 4000000 in
end
end Go.Vx

/- Contracts: the laws' own functions on values of the type Rule: sizes, copies, equality, marks; what an argument reads. (By gen_types.py.) -/
namespace Go.Vx
open Go.Proofs Classical
structure RuD where
  rel : ByteArray
  hargs : List Tm
  clause : Int
  vals : List Tm
  pos : List Fc
  neg : List Fc
def RuD.d (x : RuD) : D := .st [.s x.rel, .sl 4 (x.hargs.map Tm.d), .i x.clause, .sl 4 (x.vals.map Tm.d), .sl 2 (x.pos.map Fc.d), .sl 2 (x.neg.map Fc.d)]
theorem RuD.d_eq (x : RuD) : x.d = .st [.s x.rel, .sl 4 (x.hargs.map Tm.d), .i x.clause, .sl 4 (x.vals.map Tm.d), .sl 2 (x.pos.map Fc.d), .sl 2 (x.neg.map Fc.d)] := rfl
theorem RuD.d_n (x : RuD) : x.d.n = 6 := by
  rw [RuD.d_eq]
  simp only [D.n, D.ns]
abbrev RuD.P := (Option Addr × Nat) × (Option Addr × Nat) × (Option Addr × Nat) × (Option Addr × Nat)
/-- The cells of a value. -/
def RuD.cs (x : RuD) (p : RuD.P) : List Value := [.string x.rel, .slice p.1.1 x.hargs.length p.1.2, .int .i64 x.clause, .slice p.2.1.1 x.vals.length p.2.1.2, .slice p.2.2.1.1 x.pos.length p.2.2.1.2, .slice p.2.2.2.1 x.neg.length p.2.2.2.2]
section
variable {μ : Mem}
def RuD.At (μ : Mem) (x : RuD) (p : RuD.P) : Prop := Sl μ 4 p.1.1 x.hargs.length (x.hargs.map Tm.d) ∧ Sl μ 4 p.2.1.1 x.vals.length (x.vals.map Tm.d) ∧ Sl μ 2 p.2.2.1.1 x.pos.length (x.pos.map Fc.d) ∧ Sl μ 2 p.2.2.2.1 x.neg.length (x.neg.map Fc.d)
theorem RuD.invA {x : RuD} {cs : List Value} (h : Rep μ x.d cs) : ∃ p : RuD.P, cs = x.cs p ∧ RuD.At μ x p := by
  rw [RuD.d_eq] at h
  obtain ⟨a0, t0, rfl, h0, h⟩ := h
  have h0 : a0 = [.string x.rel] := h0
  subst h0
  obtain ⟨a1, t1, rfl, h1, h⟩ := h
  have hv_ := one_of (Rep.len _ _ h1)
  obtain ⟨v1, rfl⟩ := hv_
  have hv_ := Rep.sl h1
  obtain ⟨b1, c1, rfl, s1⟩ := hv_
  rw [List.length_map] at s1
  obtain ⟨a2, t2, rfl, h2, h⟩ := h
  have h2 : a2 = [.int .i64 x.clause] := h2
  subst h2
  obtain ⟨a3, t3, rfl, h3, h⟩ := h
  have hv_ := one_of (Rep.len _ _ h3)
  obtain ⟨v3, rfl⟩ := hv_
  have hv_ := Rep.sl h3
  obtain ⟨b3, c3, rfl, s3⟩ := hv_
  rw [List.length_map] at s3
  obtain ⟨a4, t4, rfl, h4, h⟩ := h
  have hv_ := one_of (Rep.len _ _ h4)
  obtain ⟨v4, rfl⟩ := hv_
  have hv_ := Rep.sl h4
  obtain ⟨b4, c4, rfl, s4⟩ := hv_
  rw [List.length_map] at s4
  obtain ⟨a5, t5, rfl, h5, h⟩ := h
  have hv_ := one_of (Rep.len _ _ h5)
  obtain ⟨v5, rfl⟩ := hv_
  have hv_ := Rep.sl h5
  obtain ⟨b5, c5, rfl, s5⟩ := hv_
  rw [List.length_map] at s5
  obtain rfl : t5 = [] := h
  exact ⟨((b1, c1), (b3, c3), (b4, c4), (b5, c5)), by simp [RuD.cs], ⟨s1, s3, s4, s5⟩⟩
theorem RuD.rep {x : RuD} {cs : List Value} (h : Rep μ x.d cs) : RepV μ x.d (.agg cs.toArray) := by
  rw [RuD.d_eq] at h ⊢; exact ⟨cs, rfl, h⟩
theorem RuD.invR {x : RuD} {cs : List Value} (h : Rep μ x.d cs) : ∃ p : RuD.P, cs = x.cs p ∧ RepV μ x.d (.agg (x.cs p).toArray) := by
  have hv_ := RuD.invA h
  obtain ⟨p, e, _⟩ := hv_
  subst e
  exact ⟨p, rfl, RuD.rep h⟩
theorem RuD.inv {x : RuD} {v : Value} (h : RepV μ x.d v) : ∃ p : RuD.P, v = .agg #[.string x.rel, .slice p.1.1 x.hargs.length p.1.2, .int .i64 x.clause, .slice p.2.1.1 x.vals.length p.2.1.2, .slice p.2.2.1.1 x.pos.length p.2.2.1.2, .slice p.2.2.2.1 x.neg.length p.2.2.2.2] ∧ RuD.At μ x p := by
  have h2 : ∃ cs, v = .agg (List.toArray cs) ∧ Rep μ x.d cs := by rw [RuD.d_eq] at h ⊢; exact h
  obtain ⟨cs, rfl, h3⟩ := h2
  have hv_ := RuD.invA h3
  obtain ⟨p, rfl, hA⟩ := hv_
  exact ⟨p, rfl, hA⟩
theorem RuD.invV {x : RuD} {v : Value} (h : RepV μ x.d v) : ∃ p : RuD.P, v = .agg #[.string x.rel, .slice p.1.1 x.hargs.length p.1.2, .int .i64 x.clause, .slice p.2.1.1 x.vals.length p.2.1.2, .slice p.2.2.1.1 x.pos.length p.2.2.1.2, .slice p.2.2.2.1 x.neg.length p.2.2.2.2] := by
  have hv_ := RuD.inv h
  obtain ⟨p, h, _⟩ := hv_
  exact ⟨p, h⟩
theorem RuD.elemA {l : List RuD} {base : Option Addr} {n : Nat} (h : Sl μ 6 base n (l.map RuD.d)) {i : Nat} {x : RuD} (hx : l[i]? = some x) : ∃ ad, ∃ p : RuD.P, ElemAt μ base n 6 i ad (x.cs p) ∧ RepV μ x.d (.agg (x.cs p).toArray) ∧ RuD.At μ x p := by
  have hv_ := h.get i x.d (by simp [hx])
  obtain ⟨ad, cs, h1, h2⟩ := hv_
  have hv_ := RuD.invA h2
  obtain ⟨p, rfl, hA⟩ := hv_
  exact ⟨ad, p, h1, RuD.rep h2, hA⟩
theorem RuD.elem {l : List RuD} {base : Option Addr} {n : Nat} (h : Sl μ 6 base n (l.map RuD.d)) {i : Nat} {x : RuD} (hx : l[i]? = some x) : ∃ ad, ∃ p : RuD.P, ElemAt μ base n 6 i ad (x.cs p) ∧ RepV μ x.d (.agg (x.cs p).toArray) := by
  have hv_ := RuD.elemA h hx
  obtain ⟨ad, p, h1, h2, _⟩ := hv_
  exact ⟨ad, p, h1, h2⟩
end
end Go.Vx

/- Contracts: ground rules, the reference's side: numbers of ways, values, simple goals, what lies in a universe. -/
namespace Go.Vx
open Go.Proofs Classical
def valsB (vs : List T) : List B := vs.zipIdx.map fun p => ⟨(p.2 : Int), p.1⟩
theorem sub_zip : ∀ (vs : List T) (k : Nat) (n : Int), sub ((vs.zipIdx k).map fun p => ⟨(p.2 : Int), p.1⟩) n = if (k : Int) ≤ n then vs[(n - k).toNat]? else none
  | [], k, n => by simp [sub]
  | x :: vs, k, n => by
    rw [List.zipIdx_cons, List.map_cons, sub, sub_zip vs (k + 1) n]
    by_cases h : (k : Int) = n
    · subst h; simp
    · rw [if_neg h]
      by_cases h2 : (k : Int) ≤ n
      · rw [if_pos (by omega), if_pos h2]
        obtain ⟨m, hm⟩ : ∃ m : Nat, (n - k).toNat = m + 1 := ⟨(n - k).toNat - 1, by omega⟩
        rw [hm, List.getElem?_cons_succ]
        congr 1; omega
      · rw [if_neg (by omega), if_neg h2]
theorem sub_valsB (vs : List T) : sub (valsB vs) = valF vs := funext fun n => by
  rw [valsB, sub_zip vs 0 n, valF]
  simp
theorem valsB_len (vs : List T) : (valsB vs).length = vs.length := by simp [valsB]
theorem valsB_at {vs : List T} {i : Nat} {x : T} (h : vs[i]? = some x) : (valsB vs)[i]? = some ⟨(i : Int), x⟩ := by simp [valsB, h]
theorem valsB_take (vs : List T) (i : Nat) : (valsB vs).take i = valsB (vs.take i) := by
  refine List.ext_getElem? fun k => ?_
  simp only [valsB, List.getElem?_take, List.getElem?_map, List.getElem?_zipIdx]
  split <;> simp
def WaysR (size n most : Nat) (r : Value) : Prop := ∃ w : Nat, r = .int .i64 w ∧ (size ^ n ≤ most → w = size ^ n) ∧ (most < size ^ n → most < w)
section
variable {μ : Mem}
theorem l08Ways_spec {size n most : Nat} (h1 : 1 ≤ size) (h8 : size ≤ 8) (hm : most ≤ 100000) (hn : n ≤ 1000) (hm1 : 1 ≤ most) :
    Spec Tryz.prog 240 [.int .i64 size, .int .i64 n, .int .i64 most] μ fun r μ' => WaysR size n most r ∧ μ' = μ := by
  refine Spec.forget (Spec.mk Tryz.func240 (by kernel_rfl) ?_)
  refine loop_intro (fun z : Nat × Nat => z.1 ≤ n ∧ z.2 = size ^ z.1 ∧ z.2 ≤ 8 * most) (fun (i, k) => ⟨[(0, .val (.int .i64 size)), (1, .val (.int .i64 n)), (2, .val (.int .i64 most)), (7, .val (.int .i64 (k : Nat))), (8, .val (.int .i64 (i : Nat)))], [], 0, μ, Mem.nil⟩) (fun z => n - z.1)
    (0, 1) ⟨Nat.zero_le _, rfl, by dsimp only; omega⟩ (fun (_, _) => ⟨rfl, rfl⟩) ⟨⟨rfl, rfl, rfl, rfl, rfl, trivial⟩, trivial, rfl, rfl⟩ ?_
  rintro ⟨i, k⟩ ⟨hi, hk, hb⟩
  dsimp only at hi hk hb
  have mono : size ^ i ≤ size ^ n := Nat.pow_le_pow_right h1 hi
  refine ifd (fun g1 => ?_) (fun g1 => ?_)
  · refine ifd (fun g2 => ?_) (fun g2 => ?_)
    · have hks : k * size ≤ 8 * most := by
        have := Nat.mul_le_mul (show k ≤ most by omega) h8
        omega
      refine num_eq (x := ((k * size : Nat) : Int)) (by rw [← Int.natCast_mul]; exact wrap64 (by omega) (by omega)) ?_
      exact num64 (by omega) (by omega) ⟨(i + 1, k * size), ⟨by dsimp only; omega, by dsimp only; rw [hk, Nat.pow_succ], hks⟩, by dsimp only; omega, ⟨⟨rfl, rfl, rfl, rfl, rfl, trivial⟩, trivial, rfl, rfl⟩⟩
    · exact ret_plain ⟨k, rfl, fun h => by omega, fun h => by omega⟩
  · obtain rfl : i = n := by omega
    exact ret_plain ⟨k, rfl, fun _ => hk, fun h => by omega⟩
theorem digs_elem {U : List T} {ub : Option Addr} (hu : Sl μ 4 ub U.length ((U.map T.tm).map Tm.d)) (hU : 0 < U.length) (w : Nat) : ∃ ad, ∃ p : Option Addr × Nat, ElemAt μ ub U.length 4 ((w % U.length : Nat) : Int) ad ((U.getD (w % U.length) .nil).tm.cs p) ∧ RepV μ (U.getD (w % U.length) .nil).tm.d (.agg ((U.getD (w % U.length) .nil).tm.cs p).toArray) :=
  T.elemL hu (by rw [List.getD_eq_getElem?_getD, List.getElem?_eq_getElem (Nat.mod_lt _ hU)]; rfl)
def rngI (n : Nat) : List Int := (List.range n).map fun i : Nat => (i : Int)
theorem rngI_len (n : Nat) : (rngI n).length = n := by simp [rngI]
theorem rngI_at {n i : Nat} (h : i < n) : (rngI n)[i]? = some (i : Int) := by simp [rngI, h]
set_option maxHeartbeats 1000000 in
theorem l08Values_spec {U : List T} {ub vb : Option Addr} {uc vc n w : Nat} (hu : Sl μ 4 ub U.length ((U.map T.tm).map Tm.d)) (hU : 0 < U.length) (hU8 : U.length ≤ 8) (hv : Sl μ 1 vb n ((rngI n).map D.i)) (hn : n ≤ 1000) (hw : w ≤ 100000) :
    Spec Tryz.prog 242 [.slice vb n vc, .slice ub U.length uc, .int .i64 w] μ fun v μ' => RepV μ' (.sl 5 (((valsB (digs U n w)).map B.bd).map Bd.d)) v := by
  refine Spec.mk Tryz.func242 (by kernel_rfl) ?_
  intro r10
  refine loop_intro (fun z : Nat × Option Nat × Nat × List Value => z.1 ≤ n ∧ Rows μ 5 (((valsB ((digs U n w).take z.1)).map B.bd).map Bd.d) z.2.2.2)
    (fun (i, b, c, ys) => ⟨[(1, .val (.slice ub U.length uc)), (2, .val (.int .i64 ((w / U.length ^ i : Nat) : Int))), (7, .row 0 b ys.length c), (11, .val (.slice vb n vc)), (12, .val (.int .i64 n)), (13, .val (.int .i64 i))], [(0, some (.row b c 114 5 ys))], 1, μ, Mem.nil⟩) (fun z => n - z.1)
    (0, some r10, 0, []) ⟨Nat.zero_le _, .nil⟩ (fun (_, _, _, _) => ⟨rfl, rfl⟩) ⟨⟨rfl, by rw [Nat.pow_zero, Nat.div_one]; rfl, rfl, rfl, rfl, rfl, trivial⟩, ⟨rfl, trivial⟩, rfl, rfl⟩ ?_
  rintro ⟨i, b, c, ys⟩ ⟨hi, hrows⟩
  dsimp only at hi hrows
  have hlen := hrows.len
  simp only [List.length_map, valsB_len, List.length_take, digs_len] at hlen
  have hdw : w / U.length ^ i ≤ w := Nat.div_le_self _ _
  refine ifd (fun h => ?_) (fun h => ?_)
  · have hv_ := Ints.elem hv (rngI_at (n := n) (i := i) (by omega))
    obtain ⟨ad, hel⟩ := hv_
    refine elem_intro hel ?_
    refine need_intro (by omega) ?_
    refine num_eq (x := ((w / U.length ^ i % U.length : Nat) : Int)) rfl ?_
    have hv_ := digs_elem hu hU (w / U.length ^ i)
    obtain ⟨ad2, p, hel2, hr⟩ := hv_
    refine elem_intro hel2 ?_
    intro r27
    refine grow_intro ?_ ?_ fun b' c' _ => ?_
    · show (ys.length + 1) * 64 ≤ _; omega
    · exact Nat.le_trans (m := 100000000) (show ys.length + 1 ≤ _ by omega) (by decide)
    refine need_intro (by omega) ?_
    refine num_eq (x := ((w / U.length ^ (i + 1) : Nat) : Int)) ?_ ?_
    · have e : w / U.length ^ (i + 1) = w / U.length ^ i / U.length := by rw [Nat.pow_succ, Nat.div_div_eq_div_mul]
      rw [e]
      have hd2 : w / U.length ^ i / U.length ≤ w / U.length ^ i := Nat.div_le_self _ _
      show IntKind.i64.wrap ((w / U.length ^ i / U.length : Nat) : Int) = _
      generalize w / U.length ^ i / U.length = m at hd2 ⊢
      exact wrap64 (by omega) (by omega)
    refine num64 (by omega) (by omega) ⟨(i + 1, b', c', _), ⟨by dsimp only; omega, ?_⟩, by dsimp only; omega, ⟨⟨rfl, rfl, rfl, rfl, rfl, rfl, trivial⟩, ⟨rfl, trivial⟩, rfl, rfl⟩⟩
    dsimp only
    rw [← valsB_take, List.take_add_one, valsB_at (digs_get U i n w (by omega)), Option.toList_some, valsB_take]
    simp only [List.map_append, List.map_cons, List.map_nil]
    exact hrows.append (Rows.one (RepV.bd hr) (Bd.d_n _))
  · obtain rfl : i = n := by omega
    rw [List.take_of_length_le (by rw [digs_len]; omega)] at hrows
    refine ret_frz [0] fun μ' hle' hno hrow => .inl ?_
    exact Rows.sl hrow (hrows.mono hle') (Nat.le_trans (m := 100000000) (by omega) (by decide))
theorem l12Contains_spec {U : List T} {ub : Option Addr} {uc : Nat} {x : T} {v : Value} (hu : Sl μ 4 ub U.length ((U.map T.tm).map Tm.d)) (hv : RepV μ x.tm.d v) :
    Gives Tryz.prog 245 [.slice ub U.length uc, v] μ (.bool (decide (x ∈ U))) := by
  have hn := maxLen_le hu.max
  have hv_ := Tm.invV hv
  obtain ⟨p, rfl⟩ := hv_
  refine Spec.mk Tryz.func245 (by kernel_rfl) ?_
  intro r3
  refine loop_intro (fun i : Nat => i ≤ U.length ∧ x ∉ U.take i)
    (fun i => ⟨[(3, .loc 0 r3 0), (7, .val (.slice ub U.length uc)), (8, .val (.int .i64 U.length)), (9, .val (.int .i64 i))], [(0, some (.cells r3 [.val (.int .i64 x.tm.kind), .val (.int .i64 x.tm.num), .val (.string x.tm.name), .val (.slice p.1 x.tm.args.length p.2)] 44))], 1, μ, Mem.nil⟩) (fun i => U.length - i)
    0 ⟨Nat.zero_le _, by simp⟩ (fun _ => ⟨rfl, rfl⟩) ⟨⟨rfl, rfl, rfl, rfl, trivial⟩, ⟨rfl, trivial⟩, rfl, rfl⟩ ?_
  rintro i ⟨hi, hnot⟩
  refine ifd (fun h => ?_) (fun h => ?_)
  · have hv_ := at_some (l := U) (i := i) (by omega)
    obtain ⟨y, hy⟩ := hv_
    have hv_ := T.elemL hu hy
    obtain ⟨ad, q, hel, hr⟩ := hv_
    refine elem_intro hel ?_
    intro r6
    refine call_gives (l02Same_spec y x hr hv) ?_
    refine ifd (fun h2 => ret_gives ?_ rfl) (fun h2 => ?_)
    · rw [decide_eq_true (by rw [← h2]; exact mem_at hy)]
    · refine num64 (by omega) (by omega) ⟨i + 1, ⟨by omega, ?_⟩, by omega, ⟨⟨rfl, rfl, rfl, rfl, trivial⟩, ⟨rfl, trivial⟩, rfl, rfl⟩⟩
      rw [List.take_add_one, hy, Option.toList_some, List.mem_append, List.mem_singleton]
      exact fun k => k.elim hnot fun k => h2 k.symm
  · obtain rfl : i = U.length := by omega
    rw [List.take_length] at hnot
    exact ret_gives (by rw [decide_eq_false hnot]) rfl
theorem l18Inside_spec {U : List T} {ub fb : Option Addr} {uc fc : Nat} {l : List F} (hu : Sl μ 4 ub U.length ((U.map T.tm).map Tm.d)) (hl : Sl μ 2 fb l.length ((l.map F.fc).map Fc.d)) :
    Gives Tryz.prog 160 [.slice fb l.length fc, .slice ub U.length uc] μ (.bool (decide (∀ f ∈ l, ∀ a ∈ f.args, a ∈ U))) := by
  have hn := maxLen_le hl.max
  refine Spec.mk Tryz.func160 (by kernel_rfl) ?_
  refine loop_intro (fun i : Nat => i ≤ l.length ∧ ∀ f ∈ l.take i, ∀ a ∈ f.args, a ∈ U)
    (fun i => ⟨[(1, .val (.slice ub U.length uc)), (9, .val (.slice fb l.length fc)), (10, .val (.int .i64 l.length)), (11, .val (.int .i64 i))], [], 0, μ, Mem.nil⟩) (fun i => l.length - i)
    0 ⟨Nat.zero_le _, by simp⟩ (fun _ => ⟨rfl, rfl⟩) ⟨⟨rfl, rfl, rfl, rfl, trivial⟩, trivial, rfl, rfl⟩ ?_
  rintro i ⟨hi, hall⟩
  refine ifd (fun h => ?_) (fun h => ?_)
  · have hv_ := at_some (l := l) (i := i) (by omega)
    obtain ⟨f, hf⟩ := hv_
    have hv_ := F.elem hl hf
    obtain ⟨ad, p, hel, hr, hs⟩ := hv_
    have hm := maxLen_le hs.max
    refine elem_intro hel ?_
    intro r6
    refine loop_intro (fun k : Nat => k ≤ f.args.length ∧ ∀ a ∈ f.args.take k, a ∈ U)
      (fun k => ⟨[(1, .val (.slice ub U.length uc)), (9, .val (.slice fb l.length fc)), (10, .val (.int .i64 l.length)), (11, .val (.int .i64 i)), (16, .val (.slice p.1 f.args.length p.2)), (17, .val (.int .i64 f.args.length)), (18, .val (.int .i64 k))], [], 1, μ, Mem.nil⟩) (fun k => f.args.length - k)
      0 ⟨Nat.zero_le _, by simp⟩ (fun _ => ⟨rfl, rfl⟩) ⟨⟨rfl, rfl, rfl, rfl, rfl, rfl, rfl, trivial⟩, trivial, rfl, rfl⟩ ?_
    rintro k ⟨hk, hargs⟩
    refine ifd (fun h2 => ?_) (fun h2 => ?_)
    · have hv_ := at_some (l := f.args) (i := k) (by omega)
      obtain ⟨a, ha⟩ := hv_
      have hv_ := T.elemL hs ha
      obtain ⟨ad2, q, hel2, hr2⟩ := hv_
      refine elem_intro hel2 ?_
      intro r8
      refine call_gives (l12Contains_spec hu hr2) ?_
      refine ifnd (fun h3 => ret_gives ?_ rfl) (fun h3 => ?_)
      · rw [decide_eq_false fun k => h3 (k f (mem_at hf) a (mem_at ha))]
      · refine num64 (by omega) (by omega) ⟨k + 1, ⟨by omega, ?_⟩, by omega, ⟨⟨rfl, rfl, rfl, rfl, rfl, rfl, rfl, trivial⟩, trivial, rfl, rfl⟩⟩
        rw [List.take_add_one, ha, Option.toList_some]
        intro y hy
        rcases List.mem_append.1 hy with hy | hy
        · exact hargs y hy
        · rw [List.mem_singleton.1 hy]; exact h3
    · obtain rfl : k = f.args.length := by omega
      rw [List.take_length] at hargs
      refine num64 (by omega) (by omega) ⟨i + 1, ⟨by omega, ?_⟩, by omega, ⟨⟨rfl, rfl, rfl, rfl, trivial⟩, trivial, rfl, rfl⟩⟩
      rw [List.take_add_one, hf, Option.toList_some]
      intro y hy
      rcases List.mem_append.1 hy with hy | hy
      · exact hall y hy
      · rw [List.mem_singleton.1 hy]; exact hargs
  · obtain rfl : i = l.length := by omega
    rw [List.take_length] at hall
    exact ret_gives (by rw [decide_eq_true hall]) rfl
theorem F.fc_args (f : F) : f.fc.args = f.args.map T.tm := rfl
theorem l18Copy_spec {l : List F} {base : Option Addr} {cap : Nat} (hsl : Sl μ 2 base l.length ((l.map F.fc).map Fc.d)) (hn : l.length ≤ 1000000) (hl : ∀ f ∈ l, f.args.length ≤ 1000000) :
    Spec Tryz.prog 243 [.slice base l.length cap] μ fun v μ' => RepV μ' (.sl 2 ((l.map F.fc).map Fc.d)) v := by
  refine Spec.mkO [6] Tryz.func243 (by kernel_rfl) ?_
  intro r6 hm6 ho6
  refine loop_intro (fun p : Nat × Nat × Nat × Nat × List Value × Mem × Mem => p.1 ≤ l.length ∧ p.2.2.2.2.1.length = p.2.2.2.1 ∧ RowO p.2.2.2.2.2.2 p.2.1 p.2.2.1 189 2 p.2.2.2.2.1 ∧ Apart p.2.2.2.2.2.1 p.2.2.2.2.2.2 ∧ μ.Le p.2.2.2.2.2.1 ∧ Rows p.2.2.2.2.2.1 2 (((l.take p.1).map F.fc).map Fc.d) p.2.2.2.2.1)
    (fun (i, b, c, m, ys, μ', h) => ⟨[(3, .val (.slice (some ⟨b, 0, none⟩) m c)), (7, .val (.slice base l.length cap)), (8, .val (.int .i64 l.length)), (9, .val (.int .i64 i))], [], 0, μ', h⟩) (fun p => l.length - p.1)
    (0, r6, 0, 0, [], μ, _) ⟨by simp, rfl, ⟨[], Mem.set_at _ _ _, by simp, by simp, by simp, rfl, rfl⟩, (apart_nil μ).set hm6, Mem.Le.refl _, .nil⟩ (fun (_, _, _, _, _, _, _) => ⟨rfl, rfl⟩) ⟨⟨rfl, rfl, rfl, rfl, trivial⟩, trivial, rfl, rfl⟩ ?_
  clear hm6 ho6
  rintro ⟨i, b, c, m, ys, μ', h⟩ ⟨hi, hm, hb, hap, hle, hrows⟩
  dsimp only at hi hm hb hap hle hrows
  have hlen := hrows.len
  simp only [List.length_map, List.length_take] at hlen
  refine ifd (fun hlt => ?_) (fun hlt => ?_)
  · have hv_ := at_some (l := l) (i := i) (by omega)
    obtain ⟨f, hf⟩ := hv_
    have hv_ := F.elem (hsl.mono hle) hf
    obtain ⟨ad, p, hel, hr, hs⟩ := hv_
    refine elem_intro hel ?_
    intro r5
    have hfl := hl f (mem_at hf)
    refine call_data hap (l02CopyAll_spec hs (by omega)) fun v1 μ1 hle1 hap1 hR => ?_
    have hv_ := Rep.sl hR
    obtain ⟨b4, c4, rfl, _⟩ := hv_
    rw [List.length_map, List.length_map] at hR ⊢
    intro r20
    refine app_intro ys hm hb ?_ ?_ fun b' c' o hrow hor => ?_
    · show (m + 1) * 40 ≤ _; omega
    · exact Nat.le_trans (m := 100000000) (show m + 1 ≤ _ by omega) (by decide)
    refine num64 (by omega) (by omega) ⟨(i + 1, b', c', m + 1, _, μ1, _), ⟨by dsimp only; omega, by dsimp only; rw [List.length_append, hm]; rfl, hrow, hap1.set (apartB hb hap1 hor), hle.trans hle1, ?_⟩, by dsimp only; omega, ⟨⟨rfl, rfl, rfl, rfl, trivial⟩, trivial, rfl, rfl⟩⟩
    dsimp only
    rw [List.take_add_one, hf, Option.toList_some]
    simp only [List.map_append, List.map_cons, List.map_nil]
    exact (hrows.mono hle1).append (Rows.one (F.mkV hR) (Fc.d_n _))
  · obtain rfl : i = l.length := by omega
    rw [List.take_length] at hrows
    refine ret_own _ Mem.nil (Parts.nil_right _) ?_
    obtain ⟨cs, hcell, hlen0, hcap, hone, hcs, htake⟩ := hb
    have hb2 : μ' b = none := by
      cases e : μ' b with
      | none => rfl
      | some o => have := hap b (by simp [e]); rw [hcell] at this; cases this
    have hrow : RowAt (μ'.join h) (some b) c 2 ys := ⟨hlen0, hone, _, _, by rw [Mem.join_get, hb2]; exact hcell, by simpa using hcs, by simpa using htake⟩
    subst hm
    exact Rows.sl hrow (hrows.mono (Mem.le_join _ _)) (Nat.le_trans (m := 100000000) (by omega) (by decide))
theorem two_T {xs : List T} (h : xs.length = 2) : ∃ x y, xs = [x, y] := by
  match xs, h with
  | [x, y], _ => exact ⟨x, y, rfl⟩
theorem one_of' {xs : List T} (h : xs.length = 1) : ∃ x, xs = [x] := by
  match xs, h with
  | [x], _ => exact ⟨x, rfl⟩
/-- The lengths of a simple goal's terms. -/
structure SimpleLen (k : Int) (n : Nat) : Prop where
  two : k = 2 ∨ k = 3 ∨ k = 6 → n = 2
  one : k = 4 ∨ k = 5 → n = 1
theorem testT_2 {x y : T} : testT 2 [x, y] ↔ x = y := by simp [testT]
theorem testT_3 {x y : T} : testT 3 [x, y] ↔ x ≠ y := by simp [testT]
theorem testT_4 {x : T} : testT 4 [x] ↔ x.tm.kind = 2 := by simp [testT]
theorem testT_5 {x : T} : testT 5 [x] ↔ x.tm.kind = 3 := by simp [testT]
theorem testT_6 {x y : T} : testT 6 [x, y] ↔ ¬ y.hasSym x.tm.name := by simp [testT]
theorem l13Test_spec {g : Gl} {xs : List T} {v : Value} (hv : RepV μ g.d v) (hx : g.terms = xs.map T.tm) (hl : SimpleLen g.kind xs.length) :
    Gives Tryz.prog 306 [v] μ (.bool (decide (testT g.kind xs))) := by
  have hv_ := Gl.inv hv
  obtain ⟨p, rfl, hts, -⟩ := hv_
  rw [hx] at hts ⊢
  rw [List.length_map] at hts ⊢
  refine Spec.mk Tryz.func306 (by kernel_rfl) ?_
  intro r1
  refine ifd (fun h => ret_gives (by rw [h]; simp [testT]) rfl) (fun h0 => ?_)
  refine ifd (fun h => ?_) (fun h2 => ?_)
  · have hv_ := two_T (hl.two (by omega))
    obtain ⟨x, y, rfl⟩ := hv_
    have hv_ := T.elemL hts (i := 0) (x := x) rfl
    obtain ⟨ad1, p1, e1, g1⟩ := hv_
    have hv_ := T.elemL hts (i := 1) (x := y) rfl
    obtain ⟨ad2, p2, e2, g2⟩ := hv_
    refine elem_intro e1 (elem_intro e2 (call_gives (l02Same_spec x y g1 g2) (ret_gives ?_ rfl)))
    rw [h]; exact congrArg Value.bool (decide_eq_decide.2 testT_2.symm)
  refine ifd (fun h => ?_) (fun h3 => ?_)
  · have hv_ := two_T (hl.two (by omega))
    obtain ⟨x, y, rfl⟩ := hv_
    have hv_ := T.elemL hts (i := 0) (x := x) rfl
    obtain ⟨ad1, p1, e1, g1⟩ := hv_
    have hv_ := T.elemL hts (i := 1) (x := y) rfl
    obtain ⟨ad2, p2, e2, g2⟩ := hv_
    refine elem_intro e1 (elem_intro e2 (call_gives (l02Same_spec x y g1 g2) (ret_gives ?_ rfl)))
    rw [h, ← decide_not]; exact congrArg Value.bool (decide_eq_decide.2 testT_3.symm)
  refine ifd (fun h => ?_) (fun h4 => ?_)
  · have hv_ := one_of' (hl.one (by omega))
    obtain ⟨x, rfl⟩ := hv_
    have hv_ := T.elemL hts (i := 0) (x := x) rfl
    obtain ⟨ad1, p1, e1, g1⟩ := hv_
    refine elem_intro e1 (ret_gives ?_ rfl)
    rw [h]; exact congrArg Value.bool (decide_eq_decide.2 testT_4.symm)
  refine ifd (fun h => ?_) (fun h5 => ?_)
  · have hv_ := one_of' (hl.one (by omega))
    obtain ⟨x, rfl⟩ := hv_
    have hv_ := T.elemL hts (i := 0) (x := x) rfl
    obtain ⟨ad1, p1, e1, g1⟩ := hv_
    refine elem_intro e1 (ret_gives ?_ rfl)
    rw [h]; exact congrArg Value.bool (decide_eq_decide.2 testT_5.symm)
  refine ifd (fun h => ?_) (fun h6 => ?_)
  · have hv_ := two_T (hl.two (by omega))
    obtain ⟨x, y, rfl⟩ := hv_
    have hv_ := T.elemL hts (i := 0) (x := x) rfl
    obtain ⟨ad1, p1, e1, g1⟩ := hv_
    have hv_ := T.elemL hts (i := 1) (x := y) rfl
    obtain ⟨ad2, p2, e2, g2⟩ := hv_
    refine elem_intro e2 (elem_intro e1 (call_gives (l10Contains_spec x.tm.name y g2) (ret_gives ?_ rfl)))
    rw [h, ← decide_not]; exact congrArg Value.bool (decide_eq_decide.2 testT_6.symm)
  refine ret_gives ?_ rfl
  rw [decide_eq_false]
  unfold testT
  rw [if_neg h0, if_neg h2, if_neg h3, if_neg h4, if_neg h5, if_neg h6]
  exact id
end
end Go.Vx

/- Contracts: ground rules, the reference's side: one rule. -/
namespace Go.Vx
open Go.Proofs Classical
def Ru.rd (r : Ru) : RuD := ⟨r.head.rel, r.head.args.map T.tm, r.clause, r.vals.map T.tm, r.pos.map F.fc, r.neg.map F.fc⟩
/-- A goal that may stand in a clause. -/
structure ClG (g : Gl) : Prop where
  sh : g.Sh
  one : g.kind ≠ 7 ∧ g.kind ≠ 8
def okS (vs : List T) (g : Gl) : Prop := g.kind ≠ 9 → g.kind ≠ 10 → testT g.kind (g.terms.map fun t => t.toT.subst (valF vs))
theorem callF_args (vs : List T) (g : Gl) : (callF vs g).fc.args = (g.put (valF vs)).terms := by
  rw [Gl.put_terms, F.fc_args]
  show (g.terms.map _).map _ = _
  rw [List.map_map]; rfl
theorem Gl.kid_at {g : Gl} (h : g.goals.length = 1) : g.goals[0]? = some g.kid := by
  rw [Gl.kid, List.getD_eq_getElem?_getD]
  have hv_ := at_some (l := g.goals) (i := 0) (by omega)
  obtain ⟨x, hx⟩ := hv_
  rw [hx]; rfl
theorem posF_succ {vs : List T} {c : List Gl} {j : Nat} {g : Gl} (h : c[j]? = some g) : posF vs (c.take (j + 1)) = posF vs (c.take j) ++ (if g.kind = 9 then [callF vs g] else []) := by
  rw [posF, List.take_add_one, h, Option.toList_some, List.filter_append, List.map_append]
  congr 1
  by_cases k : g.kind = 9 <;> simp [k]
theorem negF_succ {vs : List T} {c : List Gl} {j : Nat} {g : Gl} (h : c[j]? = some g) : negF vs (c.take (j + 1)) = negF vs (c.take j) ++ (if g.kind = 10 then [callF vs g.kid] else []) := by
  rw [negF, List.take_add_one, h, Option.toList_some, List.filter_append, List.map_append]
  congr 1
  by_cases k : g.kind = 10 <;> simp [k]
theorem ClG.simple {g : Gl} (h : ClG g) : SimpleLen g.kind g.terms.length := ⟨h.sh.top.ln2, h.sh.top.ln1⟩
section
variable {μ : Mem}
theorem Gl.termsV {g : Gl} {k n ts gs : Value} (h : RepV μ g.d (.agg #[k, n, ts, gs])) : RepV μ (.sl 4 (g.terms.map Tm.d)) ts := by
  rw [Gl.d_eq] at h
  obtain ⟨cs, e, h⟩ := h
  obtain ⟨a0, t0, rfl, h0, h⟩ := h
  obtain ⟨a1, t1, rfl, h1, h⟩ := h
  obtain ⟨a2, t2, rfl, h2, h⟩ := h
  obtain ⟨a3, t3, rfl, h3, h⟩ := h
  obtain rfl : t3 = [] := h
  have h0 : a0 = [.int .i64 g.kind] := h0
  have h1 : a1 = [.string g.name] := h1
  subst h0 h1
  have hv_ := one_of (Rep.len _ _ h2)
  obtain ⟨v2, rfl⟩ := hv_
  have hv_ := one_of (Rep.len _ _ h3)
  obtain ⟨v3, rfl⟩ := hv_
  have e2 : [k, n, ts, gs] = [.int .i64 g.kind, .string g.name, v2, v3] := congrArg (fun v => match v with | Value.agg a => a.toList | _ => []) e
  have e3 : ts = v2 := (List.cons.inj (List.cons.inj (List.cons.inj e2).2).2).1
  rw [e3]; exact h2
theorem callF_rep {vs : List T} {g : Gl} {k n gs : Value} {b : Option Addr} {m c : Nat} (h : RepV μ (g.put (valF vs)).d (.agg #[k, n, .slice b m c, gs])) : RepV μ (callF vs g).fc.d (.agg #[.string g.name, .slice b m c]) := by
  have h1 := Gl.termsV h
  rw [Fc.d_eq, callF_args]
  exact ⟨_, rfl, RepS.str (RepS.last h1)⟩
theorem flat_len2 {es : Nat} : ∀ {ys : List Value}, (∀ x ∈ ys, (vcells x).length = es) → (ys.flatMap vcells).length = ys.length * es
  | [], _ => by simp
  | y :: ys, h => by
    rw [List.flatMap_cons, List.length_append, flat_len2 fun x hx => h x (by simp [hx]), h y (by simp), List.length_cons, Nat.succ_mul]; omega
theorem RowAt.cut {b : Option Nat} {k es : Nat} {ys : List Value} (h : RowAt μ b k es ys) (a : Nat) : RowAt μ b k es (ys.take a) := by
  cases b with
  | none =>
    have h : ys = [] := h
    subst h
    exact List.take_nil
  | some r =>
    obtain ⟨h1, h2, arr, ty, h3, h4, h5⟩ := h
    have hl : (ys.take a).length ≤ ys.length := by rw [List.length_take]; omega
    refine ⟨by omega, fun x hx => h2 x (List.mem_of_mem_take hx), arr, ty, h3, h4, ?_⟩
    have e : ((ys.take a).flatMap vcells).length = (ys.take a).length * es := flat_len2 fun x hx => (h2 x (List.mem_of_mem_take hx)).1
    have e1 : arr.toList.take ((ys.take a).length * es) = (arr.toList.take (ys.length * es)).take ((ys.take a).length * es) := by
      rw [List.take_take]
      congr 1
      have := Nat.mul_le_mul_right es hl
      omega
    rw [e1, h5]
    conv => lhs; rw [← List.take_append_drop a ys]
    rw [List.flatMap_append, List.take_left' (by rw [e]; simp)]
/-- The head's arguments: the first values. -/
theorem headSl {vs : List T} {a k : Nat} {b : Option Nat} {ys : List Value} (h : RowAt μ b k 4 ys) (hr : Rows μ 4 ((vs.map T.tm).map Tm.d) ys) (ha : a ≤ vs.length) (hm : vs.length ≤ 1000) :
    RepV μ (.sl 4 (((vs.take a).map T.tm).map Tm.d)) (.slice (if k = 0 then (b.map fun r => (⟨r, 0, none⟩ : Addr)) else (b.map fun r => (⟨r, 0, none⟩ : Addr)).map (·.add (0 * 4))) (a - 0) (k - 0)) := by
  have e : (if k = 0 then (b.map fun r => (⟨r, 0, none⟩ : Addr)) else (b.map fun r => (⟨r, 0, none⟩ : Addr)).map (·.add (0 * 4))) = b.map fun r => (⟨r, 0, none⟩ : Addr) := by
    split
    · rfl
    · cases b <;> simp [Addr.add]
  rw [e, Nat.sub_zero, Nat.sub_zero]
  have hl := hr.len
  simp only [List.length_map] at hl
  have hr2 : Rows μ 4 (((vs.take a).map T.tm).map Tm.d) (ys.take a) := by
    have := hr.take a
    simpa [List.map_take] using this
  have hyl : (ys.take a).length = a := by rw [List.length_take]; omega
  have ht : RowAt μ b k 4 (ys.take a) := RowAt.cut h a
  have := Rows.sl ht hr2 (Nat.le_trans (m := 1000) (by omega) (by decide))
  rwa [hyl] at this
set_option maxHeartbeats 16000000 in
set_option maxRecDepth 20000 in
theorem l18Rule_spec {r : Rl} {v : Value} {c : List Gl} {cb bb : Option Addr} {cc bc a : Nat} {vs : List T} {i : Nat} (hr : RepV μ r.d v) (ha : r.arity = (a : Int)) (hal : a ≤ vs.length) (hvs : vs.length ≤ 12)
    (hc : Sl μ 4 cb c.length (c.map Gl.d)) (hcl : c.length ≤ 1000) (hcs : ∀ g ∈ c, ClG g) (hb : Sl μ 5 bb vs.length (((valsB vs).map B.bd).map Bd.d)) :
    Spec Tryz.prog 241 [v, .int .i64 i, .slice cb c.length cc, .slice bb vs.length bc] μ fun res μ' => ∃ (ru : Ru) (rv : Value), res = .tuple #[rv, .bool (decide (∀ g ∈ c, okS vs g))] ∧ RepV μ' ru.rd.d rv ∧ ((∀ g ∈ c, okS vs g) → ru = ruleOf r i c vs) := by
  have hv_ := Rl.invV hr
  obtain ⟨q, rfl⟩ := hv_
  refine Spec.mk Tryz.func241 (by kernel_rfl) ?_
  intro r4 r8 r10
  refine loop_nil (fun z : Nat × Option Nat × Nat × List Value => z.1 ≤ vs.length ∧ z.1 ≤ z.2.2.1 ∧ Rows μ 4 (((vs.take z.1).map T.tm).map Tm.d) z.2.2.2)
    (fun (k, b, n, ys) => ⟨[(2, .val (.slice cb c.length cc)), (3, .val (.slice bb vs.length bc)), (4, .loc 0 r4 0), (8, .loc 1 r8 0), (10, .loc 2 r10 0), (18, .val (.slice bb vs.length bc)), (19, .val (.int .i64 vs.length)), (20, .val (.int .i64 k))], [(0, some (.cells r4 [.val (.string r.name), .val (.int .i64 r.arity), .val (.int .i64 r.locals), .val (.int .i64 r.body.kind), .val (.string r.body.name), .val (.slice q.1.1 r.body.terms.length q.1.2), .val (.slice q.2.1 r.body.goals.length q.2.2)] 143)), (1, some (.cells r8 [.val (.string ⟨#[]⟩), .val (.slice none 0 0), .val (.int .i64 0), .val (.slice none 0 0), .val (.slice none 0 0), .val (.slice none 0 0)] 242)), (2, some (.cells r10 [.val (.string ⟨#[]⟩), .val (.slice none 0 0), .val (.int .i64 i), .row 3 b ys.length n, .val (.slice none 0 0), .val (.slice none 0 0)] 242)), (3, some (.row b n 44 4 ys))], 4, μ, Mem.nil⟩) (fun z => vs.length - z.1)
    (0, none, 0, []) ⟨Nat.zero_le _, Nat.le_refl _, .nil⟩ (fun (_, _, _, _) => ⟨rfl, rfl⟩) ?_ ?_
  · exact ⟨⟨⟨_, rfl, .inl rfl⟩, ⟨_, rfl, .inl rfl⟩, ⟨_, rfl, .inl rfl⟩, ⟨_, rfl, .inl rfl⟩, ⟨_, rfl, .inl rfl⟩, ⟨_, rfl, .inl rfl⟩, ⟨_, rfl, .inl rfl⟩, ⟨_, rfl, .inl rfl⟩, trivial⟩, ⟨.inl rfl, .inl rfl, .inr (.inr ⟨_, _, _, _, rfl, rfl, .inl rfl, .inl rfl, .inl rfl, .inr ⟨3, rfl, rfl, Nat.le_refl _⟩, .inl rfl, .inl rfl, trivial⟩), .inr (.inl ⟨_, _, rfl, Nat.le_refl _⟩), trivial⟩, rfl, rfl⟩
  rintro ⟨k, b, n, ys⟩ ⟨hk, hkn, hrows⟩
  dsimp only at hk hkn hrows
  have hlen := hrows.len
  simp only [List.length_map, List.length_take] at hlen
  refine ifd (fun hlt => ?_) (fun hlt => ?_)
  · have hv_ := at_some (l := vs) (i := k) (by omega)
    obtain ⟨x, hx⟩ := hv_
    have hv_ := B.elem hb (valsB_at hx)
    obtain ⟨ad, p, hel, hto⟩ := hv_
    refine elem_intro hel ?_
    intro r12 r28
    refine grow_introC ?_ ?_ fun b' n' hcap _ => ?_
    · show (ys.length + 1) * 56 ≤ _; omega
    · exact Nat.le_trans (m := 100000000) (show ys.length + 1 ≤ _ by omega) (by decide)
    have hcap : ys.length + 1 ≤ n' := hcap
    refine num64 (by omega) (by omega) ⟨(k + 1, b', n', _), ⟨by dsimp only; omega, by dsimp only; omega, ?_⟩, by dsimp only; omega, ⟨⟨rfl, rfl, rfl, rfl, rfl, rfl, rfl, rfl, trivial⟩, ⟨rfl, rfl, rfl, rfl, trivial⟩, rfl, rfl⟩⟩
    dsimp only
    rw [List.take_add_one, hx, Option.toList_some]
    simp only [List.map_append, List.map_cons, List.map_nil]
    exact hrows.append (Rows.one hto (Tm.d_n _))
  obtain rfl : k = vs.length := by omega
  rw [List.take_length] at hrows
  refine cut_intro 0 a rfl ha (Nat.zero_le _) (by omega) ?_
  refine loop_nil (fun z : Nat × (Option Nat × Nat × List Value) × (Option Nat × Nat × List Value) × Mem => z.1 ≤ c.length ∧ μ.Le z.2.2.2 ∧ Rows z.2.2.2 2 (((posF vs (c.take z.1)).map F.fc).map Fc.d) z.2.1.2.2 ∧ Rows z.2.2.2 2 (((negF vs (c.take z.1)).map F.fc).map Fc.d) z.2.2.1.2.2 ∧ ∀ g ∈ c.take z.1, okS vs g)
    (fun (j, (pb, pc, ps), (nb, nc, ns), μ') => ⟨[(3, .val (.slice bb vs.length bc)), (8, .loc 1 r8 0), (10, .loc 2 r10 0), (41, .val (.slice cb c.length cc)), (42, .val (.int .i64 c.length)), (43, .val (.int .i64 j))], [(1, some (.cells r8 [.val (.string ⟨#[]⟩), .val (.slice none 0 0), .val (.int .i64 0), .val (.slice none 0 0), .val (.slice none 0 0), .val (.slice none 0 0)] 242)), (2, some (.cells r10 [.val (.string r.name), .val (.slice (if n = 0 then (b.map fun r => (⟨r, 0, none⟩ : Addr)) else (b.map fun r => (⟨r, 0, none⟩ : Addr)).map (·.add (0 * 4))) (a - 0) (n - 0)), .val (.int .i64 i), .row 3 b ys.length n, .row 4 pb ps.length pc, .row 5 nb ns.length nc] 242)), (3, some (.row b n 44 4 ys)), (4, some (.row pb pc 189 2 ps)), (5, some (.row nb nc 189 2 ns))], 6, μ', Mem.nil⟩) (fun z => c.length - z.1)
    (0, (none, 0, []), (none, 0, []), μ) ⟨Nat.zero_le _, Mem.Le.refl _, .nil, .nil, by simp⟩ (fun (_, (_, _, _), (_, _, _), _) => ⟨rfl, rfl⟩) ?_ ?_
  · exact ⟨⟨⟨_, rfl, .inl rfl⟩, ⟨_, rfl, .inl rfl⟩, ⟨_, rfl, .inl rfl⟩, ⟨_, rfl, .inl rfl⟩, ⟨_, rfl, .inl rfl⟩, ⟨_, rfl, .inl rfl⟩, trivial⟩, ⟨.inl rfl, .inr (.inr ⟨_, _, _, _, rfl, rfl, .inl rfl, .inl rfl, .inl rfl, .inl rfl, .inr ⟨4, rfl, rfl, Nat.le_refl _⟩, .inr ⟨5, rfl, rfl, Nat.le_succ 4⟩, trivial⟩), .inl rfl, .inr (.inl ⟨_, _, rfl, Nat.le_refl _⟩), .inr (.inl ⟨_, _, rfl, Nat.le_succ 4⟩), trivial⟩, rfl, rfl⟩
  rintro ⟨j, ⟨pb, pc, ps⟩, ⟨nb, nc, ns⟩, μ'⟩ ⟨hj, hle, hps, hns, hall⟩
  dsimp only at hj hle hps hns hall
  have hpl := hps.len
  have hnl := hns.len
  have hpf : (posF vs (c.take j)).length ≤ 1000 := by
    rw [posF, List.length_map]
    exact Nat.le_trans (List.length_filter_le _ _) (by rw [List.length_take]; omega)
  have hnf : (negF vs (c.take j)).length ≤ 1000 := by
    rw [negF, List.length_map]
    exact Nat.le_trans (List.length_filter_le _ _) (by rw [List.length_take]; omega)
  simp only [List.length_map] at hpl hnl
  have fin : ∀ μ2 μ3 μ4 : Mem, μ'.Le μ2 → RowAt μ2 b n 4 ys → μ2.Le μ3 → RowAt μ3 pb pc 2 ps → μ3.Le μ4 → RowAt μ4 nb nc 2 ns →
      RepV μ4 (Ru.rd ⟨⟨r.name, vs.take a⟩, i, vs, posF vs (c.take j), negF vs (c.take j)⟩).d (.agg #[.string r.name, .slice (if n = 0 then (b.map fun r => (⟨r, 0, none⟩ : Addr)) else (b.map fun r => (⟨r, 0, none⟩ : Addr)).map (·.add (0 * 4))) (a - 0) (n - 0), .int .i64 i, .slice (b.map fun r => (⟨r, 0, none⟩ : Addr)) ys.length n, .slice (pb.map fun r => (⟨r, 0, none⟩ : Addr)) ps.length pc, .slice (nb.map fun r => (⟨r, 0, none⟩ : Addr)) ns.length nc]) := by
    intro μ2 μ3 μ4 h1 h2 h3 h4 h5 h6
    have hmax : (1000 : Nat) ≤ maxLen := by decide
    have k1 := headSl h2 (hrows.mono (hle.trans h1)) hal (by omega)
    have k2 := Rows.sl h2 (hrows.mono (hle.trans h1)) (Nat.le_trans (m := 1000) (by omega) hmax)
    have k3 := Rows.sl h4 (hps.mono (h1.trans h3)) (Nat.le_trans (m := 1000) (by omega) hmax)
    have k4 := Rows.sl h6 (hns.mono ((h1.trans h3).trans h5)) (Nat.le_trans (m := 1000) (by omega) hmax)
    rw [RuD.d_eq]
    exact ⟨_, rfl, RepS.str (RepS.cons1 (k1.mono (h3.trans h5)) (RepS.int (RepS.cons1 (k2.mono (h3.trans h5)) (RepS.cons1 (k3.mono h5) (RepS.last k4)))))⟩
  refine ifd (fun hlt => ?_) (fun hlt => ?_)
  rotate_left
  · obtain rfl : j = c.length := by omega
    rw [List.take_length] at hall fin
    refine ret_frz [3, 4, 5] fun μ2 hle2 hno2 hat2 μ3 hle3 hno3 hat3 μ4 hle4 hno4 hat4 => .inl ⟨_, _, ?_, fin μ2 μ3 μ4 hle2 hat2 hle3 hat3 hle4 hat4, fun _ => by rw [ruleOf, ha]; rfl⟩
    rw [decide_eq_true hall]
  have hv_ := at_some (l := c) (i := j) (by omega)
  obtain ⟨g, hg⟩ := hv_
  have hv_ := Gl.elem (hc.mono hle) hg
  obtain ⟨ad, pg, hel, hrg⟩ := hv_
  have hG := hcs g (mem_at hg)
  refine elem_intro hel ?_
  intro r14
  have hput := l13Put_spec (bs := valsB vs) (b0 := bb) (c0 := bc) g hrg hG.sh (by rw [valsB_len]; exact hb.mono hle)
  rw [valsB_len, sub_valsB] at hput
  refine call_plain hput fun v1 μ1 hle1 hR => ?_
  have hv_ := Gl.invV hR
  obtain ⟨p1, rfl⟩ := hv_
  intro r15
  have all1 : okS vs g → ∀ x ∈ c.take (j + 1), okS vs x := fun h x hx => by
    rw [List.take_add_one, hg, Option.toList_some] at hx
    rcases List.mem_append.1 hx with hx | hx
    · exact hall x hx
    · rw [List.mem_singleton.1 hx]; exact h
  refine ifd (fun h9 => ?_) (fun h9 => ?_)
  · intro r61
    refine grow_intro ?_ ?_ fun b' c' _ => ?_
    · show (ps.length + 1) * 40 ≤ _; omega
    · exact Nat.le_trans (m := 100000000) (show ps.length + 1 ≤ _ by omega) (by decide)
    refine num64 (by omega) (by omega) ⟨(j + 1, (b', c', _), (nb, nc, ns), μ1), ⟨by dsimp only; omega, hle.trans hle1, ?_, ?_, all1 fun k => absurd h9 k⟩, by dsimp only; omega, ⟨⟨rfl, rfl, rfl, rfl, rfl, rfl, trivial⟩, ⟨rfl, rfl, rfl, rfl, rfl, trivial⟩, rfl, rfl⟩⟩
    · dsimp only
      rw [posF_succ hg, if_pos h9]
      simp only [List.map_append, List.map_cons, List.map_nil]
      have := callF_rep hR
      rw [Gl.put_name]
      exact (hps.mono hle1).append (Rows.one this (Fc.d_n _))
    · dsimp only
      rw [negF_succ hg, if_neg (by omega), List.append_nil]
      exact hns.mono hle1
  refine ifd (fun h10 => ?_) (fun h10 => ?_)
  · have hgl := hG.sh.top.gl1 h10
    have hv_ := Gl.inv hR
    obtain ⟨q1, e1, _, hgs⟩ := hv_
    have hkid : (g.put (valF vs)).goals[0]? = some (g.kid.put (valF vs)) := by rw [Gl.put_goals, List.getElem?_map, Gl.kid_at hgl]; rfl
    have hv_ := Gl.elem hgs hkid
    obtain ⟨ad2, pk, hel2, hrk⟩ := hv_
    have hp : q1 = p1 := by
      have h2 := congrArg (fun v => match v with | Value.agg a => (a[2]?, a[3]?) | _ => (none, none)) e1
      simp at h2
      exact Prod.ext (Prod.ext h2.1.1.symm h2.1.2.symm) (Prod.ext h2.2.1.symm h2.2.2.symm)
    subst hp
    refine elem_intro hel2 ?_
    refine elem_intro hel2 ?_
    intro r81
    refine grow_intro ?_ ?_ fun b' c' _ => ?_
    · show (ns.length + 1) * 40 ≤ _; omega
    · exact Nat.le_trans (m := 100000000) (show ns.length + 1 ≤ _ by omega) (by decide)
    refine num64 (by omega) (by omega) ⟨(j + 1, (pb, pc, ps), (b', c', _), μ1), ⟨by dsimp only; omega, hle.trans hle1, ?_, ?_, all1 fun _ k => absurd h10 k⟩, by dsimp only; omega, ⟨⟨rfl, rfl, rfl, rfl, rfl, rfl, trivial⟩, ⟨rfl, rfl, rfl, rfl, rfl, trivial⟩, rfl, rfl⟩⟩
    · dsimp only
      rw [posF_succ hg, if_neg h9, List.append_nil]
      exact hps.mono hle1
    · dsimp only
      rw [negF_succ hg, if_pos h10]
      simp only [List.map_append, List.map_cons, List.map_nil]
      have := callF_rep (vs := vs) (g := g.kid) hrk
      rw [Gl.put_name]
      exact (hns.mono hle1).append (Rows.one this (Fc.d_n _))
  have hterms : (g.put (valF vs)).terms = (g.terms.map fun t => t.toT.subst (valF vs)).map T.tm := by rw [Gl.put_terms, List.map_map]; rfl
  refine call_gives (l13Test_spec hR hterms (by rw [Gl.put_kind, List.length_map]; exact hG.simple)) ?_
  rw [Gl.put_kind]
  refine ifnd (fun hf => ?_) (fun hf => ?_)
  · refine ret_frz [3, 4, 5] fun μ2 hle2 hno2 hat2 μ3 hle3 hno3 hat3 μ4 hle4 hno4 hat4 => .inl ⟨_, _, ?_, fin μ2 μ3 μ4 (hle1.trans hle2) hat2 hle3 hat3 hle4 hat4, fun k => absurd (k g (mem_at hg) h9 h10) hf⟩
    rw [decide_eq_false fun k => hf (k g (mem_at hg) h9 h10)]
  · refine num64 (by omega) (by omega) ⟨(j + 1, (pb, pc, ps), (nb, nc, ns), μ1), ⟨by dsimp only; omega, hle.trans hle1, ?_, ?_, all1 fun _ _ => hf⟩, by dsimp only; omega, ⟨⟨rfl, rfl, rfl, rfl, rfl, rfl, trivial⟩, ⟨rfl, rfl, rfl, rfl, rfl, trivial⟩, rfl, rfl⟩⟩
    · dsimp only
      rw [posF_succ hg, if_neg h9, List.append_nil]
      exact hps.mono hle1
    · dsimp only
      rw [negF_succ hg, if_neg h10, List.append_nil]
      exact hns.mono hle1
end
end Go.Vx

/- Contracts: the reference's ground terms. -/
namespace Go.Vx
open Go.Proofs Classical
section
variable {μ : Mem}
theorem spec_IsGround_spec (x : T) {v : Value} (hv : RepV μ x.tm.d v) (hx : x.ok) (hw : x.tm.d.wd) : Gives Tryz.prog 112 [v] μ (.bool (decide (x.vars = []))) := by
  have hv_ := Tm.invV hv
  obtain ⟨p, rfl⟩ := hv_
  have := T.vars_size x
  have := hx.2
  refine Spec.forget (Spec.mk Tryz.func112 (by kernel_rfl) ?_)
  intro r
  refine call_gives (spec_TermOk_spec x.tm hv hw) ?_
  refine ifd (fun _ => ?_) (fun h => absurd hx.tm h)
  refine call_plain (l02Vars_spec x (l := []) hv (Rep.nilSl 1) (by simp; omega)) fun v' μ' hle hR => ?_
  obtain ⟨r, h1, h2, h3⟩ := hR
  have hv_ := Rep.sl h1
  obtain ⟨b, c, rfl, _⟩ := hv_
  refine ret_plain (isI ?_)
  rw [List.length_map]
  constructor
  · intro hh
    have : r = [] := List.eq_nil_of_length_eq_zero (by omega)
    subst this
    cases hx : x.vars with
    | nil => rfl
    | cons a l =>
      have := (h2 a).2 (.inl (by simp [hx]))
      simp at this
  · intro hh
    rw [hh] at h3
    simp at h3
    rw [h3]; rfl
end
end Go.Vx

/- Contracts: ground terms. -/
namespace Go.Vx
open Go.Proofs Classical
section
variable {μ : Mem}
theorem isGround1_spec (r : Nat) (b : Bool) (n : Int) : SpecH Tryz.prog 286 [.int .i64 n, .pointer (some ⟨r, 0, none⟩)] μ (boolAt r b) fun v μ' h' => v = .tuple #[] ∧ μ' = μ ∧ h' = boolAt r false := by
  refine SpecH.mk [] Tryz.func286 (by kernel_rfl) ?_
  refine sto_intro (h := boolAt r b) (a := ⟨r, 0, none⟩) [.bool b] 4 (set_self _ _ _) rfl ?_ ?_
  · exact Nat.le_refl _
  exact ret_plain ⟨rfl, rfl, set_nil _ _ _⟩
theorem isGround_spec (x : T) {v : Value} (hv : RepV μ x.tm.d v) : Gives Tryz.prog 198 [v] μ (.bool (decide (x.vars = []))) := by
  have hv_ := Tm.invV hv
  obtain ⟨p, rfl⟩ := hv_
  refine Spec.mkO [3] Tryz.func198 (by kernel_rfl) ?_
  intro r r2 h1 h2
  refine sto_intro [.bool false] 4 (set_self _ _ _) rfl ?_ ?_
  · exact Nat.le_refl _
  have e : ((Mem.nil.set r2 (.cells #[.bool false] 4 (0, 0))).set r2 (.cells #[.bool true] 4 (0, 0))) = boolAt r2 true := set_nil _ _ _
  refine call_own (R := fun r μ' h' => r = .tuple #[] ∧ μ' = μ ∧ h' = boolAt r2 (x.vars.foldl (fun _ _ => false) true)) ?_ fun v μ' h' hle hap hR => ?_
  · have := eachVar_spec (boolAt r2) (fun _ _ => false) (Q := fun _ => True) (fun s n _ => isGround1_spec r2 s n) x true hv (fun _ _ => trivial)
    rw [← e] at this
    exact this
  obtain ⟨rfl, rfl, rfl⟩ := hR
  refine own_intro [.bool (x.vars.foldl (fun _ _ => false) true)] rfl (fun j v hj => ?_) ?_
  · match j, hj with
    | 0, hj => cases hj; simp [boolAt, Mem.cell, Addr.add_lit', set_self]
  · refine ret_plain ⟨?_, rfl⟩
    have : ∀ (l : List Int) (b : Bool), l.foldl (fun _ _ => false) b = if l = [] then b else false := fun l => by
      induction l with
      | nil => simp
      | cons a l ih => intro b; simp only [List.foldl_cons, ih]; simp
    rw [this]
    by_cases h : x.vars = [] <;> simp [h]
end
end Go.Vx

