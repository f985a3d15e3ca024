/- Texts of the proof, part 3. -/
import Derived.Orders
import Derived.Below
import Derived.WalkKit
import Derived.MapKept
import Derived.WideKeyMaps
import Derived.Maps.RangeRun
import Derived.Laws.Cover3
import Derived.Laws.IdiomStrings
import Derived.Laws.BytesString
import Derived.Deep.RegionHeld3
import Derived.Carry
import Derived.ChangeArms
import Derived.RowKit3
import Derived.Test.YtcpooehlndhcbaaGreatChecked
import Derived.KernelRfl
import Derived.ProofKit
import Derived.OpenShut
import Derived.ChangeOld
import Derived.Handed
import Derived.JoinedOf
import Derived.Sort.AssemblyPlain
import Derived.DeepKeys3
import Derived.Lib.ReflectliteSwap
import Derived.Test.YtcpooehlndhcbaaGreatM2
/- Contracts: the laws' own functions on bindings: sizes, copies, equality. -/
namespace Go.Vx
open Go.Proofs Classical
structure Bd where
  var : Int
  to : Tm
def Bd.d (b : Bd) : D := .st [.i b.var, b.to.d]
theorem Bd.d_n (b : Bd) : b.d.n = 5 := by
  have := Tm.d_n b.to
  simp only [Bd.d, D.n, D.ns, this]
def Bd.cs (b : Bd) (p : Option Addr × Nat) : List Value := [.int .i64 b.var, .int .i64 b.to.kind, .int .i64 b.to.num, .string b.to.name, .slice p.1 b.to.args.length p.2]
section
variable {μ : Mem}
theorem Tm.invC {t : Tm} {cs : List Value} (h : Rep μ t.d cs) : ∃ p : Option Addr × Nat, cs = t.cs p := by
  cases t
  obtain ⟨b, c, h, _⟩ := Tm.invS h
  exact ⟨(b, c), h⟩
theorem Bd.invS {b : Bd} {cs : List Value} (h : Rep μ b.d cs) : ∃ p : Option Addr × Nat, cs = b.cs p ∧ RepV μ b.to.d (.agg (b.to.cs p).toArray) := by
  obtain ⟨c1, c2, rfl, rfl, c3, c4, rfl, h3, rfl⟩ := h
  obtain ⟨p, rfl⟩ := Tm.invC h3
  exact ⟨p, by simp [Bd.cs, Tm.cs], Tm.rep h3⟩
theorem Bd.inv {b : Bd} {v : Value} (h : RepV μ b.d v) : ∃ p : Option Addr × Nat, v = .agg #[.int .i64 b.var, .int .i64 b.to.kind, .int .i64 b.to.num, .string b.to.name, .slice p.1 b.to.args.length p.2] ∧ RepV μ b.to.d (.agg (b.to.cs p).toArray) := by
  obtain ⟨cs, rfl, h⟩ := h
  obtain ⟨p, rfl, h2⟩ := Bd.invS (b := b) h
  exact ⟨p, rfl, h2⟩
theorem Bd.invV {b : Bd} {v : Value} (h : RepV μ b.d v) : ∃ p : Option Addr × Nat, v = .agg #[.int .i64 b.var, .int .i64 b.to.kind, .int .i64 b.to.num, .string b.to.name, .slice p.1 b.to.args.length p.2] := by
  obtain ⟨p, h, _⟩ := Bd.inv h
  exact ⟨p, h⟩
theorem Bd.elem {l : List Bd} {base : Option Addr} {n : Nat} (h : Sl μ 5 base n (l.map Bd.d)) {i : Nat} {b : Bd} (hb : l[i]? = some b) : ∃ ad, ∃ p : Option Addr × Nat, ElemAt μ base n 5 i ad (b.cs p) ∧ RepV μ b.d (.agg (b.cs p).toArray) := by
  obtain ⟨ad, cs, h1, h2⟩ := h.get i b.d (by simp [hb])
  obtain ⟨p, rfl, _⟩ := Bd.invS (b := b) h2
  exact ⟨ad, p, h1, _, rfl, h2⟩
theorem szBinding_spec (b : Bd) {v : Value} {left : Int} (hv : RepV μ b.d v) (hl : 0 ≤ left) (hl2 : left ≤ 1048576) (hw : b.d.wd) : Gives Tryz.prog 72 [v, .int .i64 left] μ (.int .i64 (szR left b.d.sz)) := by
  obtain ⟨p, rfl, ht⟩ := Bd.inv hv
  have hsz : b.d.sz = b.to.d.sz := by simp [Bd.d, D.sz, D.szs]
  refine Spec.mk Tryz.func72 (by kernel_rfl) ?_
  intro r
  refine call_gives (szTerm_spec b.to ht hl hl2 hw.2.1) ?_
  rw [hsz]
  refine ifd (fun h => ret_gives ?_ rfl) (fun h => ret_gives rfl rfl)
  rw [szR_neg (szR_lt h)]
theorem szBindingS_of {l : List Bd} (he : ∀ t ∈ l, ∀ {v : Value} {left : Int}, RepV μ t.d v → 0 ≤ left → left ≤ 1048576 → t.d.wd → Gives Tryz.prog 72 [v, .int .i64 left] μ (.int .i64 (szR left t.d.sz)))
    {base : Option Addr} {cap : Nat} {left : Int} (hsl : Sl μ 5 base l.length (l.map Bd.d)) (hl : 0 ≤ left) (hl2 : left ≤ 1048576) (hw : D.wds (l.map Bd.d)) :
    Gives Tryz.prog 14 [.slice base l.length cap, .int .i64 left] μ (.int .i64 (szR left (l.length + D.szs (l.map Bd.d)))) := by
  have hn := maxLen_le hsl.max
  refine Spec.mk Tryz.func14 (by kernel_rfl) ?_
  refine num64 (by omega) (by omega) (ifd (fun h => ret_gives ?_ rfl) (fun h => ?_))
  · rw [szR_neg (by omega)]
  refine loop_intro (fun i : Nat => i ≤ l.length ∧ (D.szs ((l.map Bd.d).take i) : Int) ≤ left - l.length) (fun i => ⟨[(0, .val (.slice base l.length cap)), (1, .val (.int .i64 (left - l.length - D.szs ((l.map Bd.d).take i)))), (5, .val (.int .i64 i))], [], 0, μ, Mem.nil⟩) (fun i => l.length - i)
    0 ⟨by omega, by simp [D.szs]; omega⟩ (fun i => ⟨rfl, rfl⟩) ⟨⟨rfl, by show some (SV.val (.int .i64 _)) = some (SV.val (.int .i64 _)); congr 3; simp [D.szs], rfl, trivial⟩, trivial, rfl, rfl⟩ ?_
  rintro i ⟨hi, hz⟩
  refine ifd (fun h => ?_) (fun h => ?_)
  · obtain ⟨t, ht⟩ := at_some (l := l) (i := i) (by omega)
    have hx := at_map (f := Bd.d) ht
    have hs := D.szs_take hx
    have hs' := D.szs_le (l.map Bd.d) (i + 1)
    obtain ⟨ad, p, hel, hr⟩ := Bd.elem hsl ht
    refine elem_intro hel (call_gives (he t (mem_at ht) hr (by omega) (by omega) (D.wds_mem hw _ (mem_at hx))) ?_)
    refine ifd (fun h => ret_gives ?_ rfl) (fun h => ?_)
    · have := szR_lt h
      rw [szR_neg (by omega)]
    · have := szR_ge h
      refine num64 (by omega) (by omega) ⟨i + 1, ⟨by omega, by omega⟩, by omega, ⟨⟨rfl, ?_, rfl, trivial⟩, trivial, rfl, rfl⟩⟩
      rw [szR_pos this, hs]
      show some (SV.val (.int .i64 _)) = some (SV.val (.int .i64 _))
      congr 3; omega
  · obtain rfl : i = l.length := by omega
    rw [List.take_of_length_le (by simp)] at hz ⊢
    refine ret_gives ?_ rfl
    rw [szR_pos (by omega)]; congr 1; omega
theorem szBindingS_spec {l : List Bd} {base : Option Addr} {cap : Nat} {left : Int} (hsl : Sl μ 5 base l.length (l.map Bd.d)) (hl : 0 ≤ left) (hl2 : left ≤ 1048576) (hw : D.wds (l.map Bd.d)) :
    Gives Tryz.prog 14 [.slice base l.length cap, .int .i64 left] μ (.int .i64 (szR left (l.length + D.szs (l.map Bd.d)))) := szBindingS_of (fun t _ _ _ => szBinding_spec t) hsl hl hl2 hw
theorem toBinding_spec (b : Bd) {μ : Mem} {v : Value} (hv : RepV μ b.d v) (hb : b.d.sz ≤ 1048576) : Spec Tryz.prog 77 [v] μ fun v μ' => Fresh μ μ' b.d v := by
  obtain ⟨p, rfl, ht⟩ := Bd.inv hv
  have hsz : b.d.sz = b.to.d.sz := by simp [Bd.d, D.sz, D.szs]
  refine Spec.mk Tryz.func77 (by kernel_rfl) ?_
  intro r1 r2 r3
  refine call_plain (toTerm_spec b.to ht (by omega)) fun v μ' hle hf => ?_
  obtain ⟨p', rfl⟩ := Tm.invV hf.rep
  obtain ⟨h, h1, h2, h3⟩ := hf
  exact ret_plain ⟨h, ⟨_, rfl, OwnS.int (OwnS.last h1.cells)⟩, h2, h3⟩
theorem toBindingS_of {l : List Bd} (he : ∀ t ∈ l, ∀ {μ : Mem} {v : Value}, RepV μ t.d v → t.d.sz ≤ 1048576 → Spec Tryz.prog 77 [v] μ fun v μ' => Fresh μ μ' t.d v)
    {base : Option Addr} {cap : Nat} (hsl : Sl μ 5 base l.length (l.map Bd.d)) (hb : l.length + D.szs (l.map Bd.d) ≤ 1048576) :
    Spec Tryz.prog 17 [.slice base l.length cap] μ fun v μ' => Fresh μ μ' (.sl 5 (l.map Bd.d)) v := by
  refine Spec.mk Tryz.func17 (by kernel_rfl) ?_
  refine make_intro l.length rfl rfl (by simp only; omega) (Nat.le_trans (m := 1048576) (by omega) (by decide)) ?_
  intro r
  refine loop_intro (fun p : Nat × List Value × Mem => μ.Le p.2.2 ∧ ∃ g, Filled 5 (.agg #[.int .i64 0, .int .i64 0, .int .i64 0, .string ⟨#[]⟩, .slice none 0 0]) μ p.2.2 (l.map Bd.d) p.1 p.2.1 g)
    (fun (i, xs, μ') => ⟨[(0, .val (.slice base l.length cap)), (3, .row 0 (some r) l.length l.length), (4, .val (.int .i64 i))], [(0, some (.row (some r) l.length 114 5 xs))], 1, μ', Mem.nil⟩) (fun p => l.length - p.1)
    (0, List.replicate l.length (.agg #[.int .i64 0, .int .i64 0, .int .i64 0, .string ⟨#[]⟩, .slice none 0 0]), μ) ⟨Mem.Le.refl μ, _, Filled.start (by simp)⟩ (fun (_, _, _) => ⟨rfl, rfl⟩) ⟨⟨rfl, rfl, rfl, trivial⟩, ⟨rfl, trivial⟩, rfl, rfl⟩ ?_
  rintro ⟨i, xs, μ'⟩ ⟨hle, g, hf⟩
  dsimp only at hle hf
  have hi := hf.le
  have hlen := hf.len
  rw [List.length_map] at hi hlen
  refine ifd (fun h => ?_) (fun h => ?_)
  · obtain ⟨t, ht⟩ := at_some (l := l) (i := i) (by omega)
    have hx := at_map (f := Bd.d) ht
    have hs := D.szs_mem hx
    obtain ⟨ad, p, hel, hr⟩ := Bd.elem (hsl.mono hle) ht
    refine elem_intro hel (call_plain (he t (mem_at ht) hr (by omega)) fun v μ'' hle2 hfr => ?_)
    obtain ⟨g', hf'⟩ := hf.step hx (Bd.d_n t) hfr hle2
    obtain ⟨p2, rfl⟩ := Bd.invV hfr.rep
    refine rel_intro i rfl (by omega) ?_
    refine get_intro _ (hf.rest i (by omega) (by simpa using h)) ?_
    refine num64 (by omega) (by omega) ⟨(i + 1, _, μ''), ⟨hle.trans hle2, g', hf'⟩, by dsimp only; omega, ⟨⟨rfl, rfl, rfl, trivial⟩, ⟨rfl, trivial⟩, rfl, rfl⟩⟩
  · obtain rfl : i = l.length := by omega
    refine ret_frz [0] fun μ2 hle2 hno hrow => .inl ?_
    have := Fresh.ofRow (hf.all (by simp)) hf.sub hf.new hle hle2 hno hrow (Nat.le_trans (m := 1048576) (by omega) (by decide))
    rw [hlen] at this
    exact this
theorem toBindingS_spec {l : List Bd} {base : Option Addr} {cap : Nat} (hsl : Sl μ 5 base l.length (l.map Bd.d)) (hb : l.length + D.szs (l.map Bd.d) ≤ 1048576) :
    Spec Tryz.prog 17 [.slice base l.length cap] μ fun v μ' => Fresh μ μ' (.sl 5 (l.map Bd.d)) v := toBindingS_of (fun t _ _ _ => toBinding_spec t) hsl hb
theorem eqBinding_spec (b : Bd) {v v' : Value} (hv : RepV μ b.d v) (hv' : RepV μ b.d v') : Gives Tryz.prog 83 [v, v'] μ (.bool true) := by
  obtain ⟨p, rfl, ht⟩ := Bd.inv hv
  obtain ⟨p', rfl, ht'⟩ := Bd.inv hv'
  refine Spec.mk Tryz.func83 (by kernel_rfl) ?_
  intro r1 r2
  repeat' (first
    | refine ifnd (fun h => absurd rfl h) (fun _ => ?_)
    | refine call_gives (eqTerm_spec b.to ht ht') ?_
    | refine if_intro (fun h => nomatch h) (fun _ => ?_))
  exact ret_gives rfl rfl
theorem eqBindingS_of {l : List Bd} (he : ∀ t ∈ l, ∀ {v v' : Value}, RepV μ t.d v → RepV μ t.d v' → Gives Tryz.prog 83 [v, v'] μ (.bool true))
    {base base' : Option Addr} {cap cap' : Nat} (hl : Sl μ 5 base l.length (l.map Bd.d)) (hl' : Sl μ 5 base' l.length (l.map Bd.d)) :
    Gives Tryz.prog 21 [.slice base l.length cap, .slice base' l.length cap'] μ (.bool true) := by
  have hn := maxLen_le hl.max
  refine Spec.mk Tryz.func21 (by kernel_rfl) ?_
  refine ifnd (fun h => absurd rfl h) (fun _ => ?_)
  refine loop_intro (fun i : Nat => i ≤ l.length) (fun i => ⟨[(0, .val (.slice base l.length cap)), (1, .val (.slice base' l.length cap')), (5, .val (.int .i64 i))], [], 0, μ, Mem.nil⟩) (fun i => l.length - i)
    0 (by omega) (fun i => ⟨rfl, rfl⟩) ⟨⟨rfl, rfl, rfl, trivial⟩, trivial, rfl, rfl⟩ ?_
  intro i hi
  refine ifd (fun h => ?_) (fun h => ?_)
  · obtain ⟨t, ht⟩ := at_some (l := l) (i := i) (by omega)
    obtain ⟨ad, p, hel, hr⟩ := Bd.elem hl ht
    obtain ⟨ad', p', hel', hr'⟩ := Bd.elem hl' ht
    refine elem_intro hel (elem_intro hel' (call_gives (he t (mem_at ht) hr hr') ?_))
    refine if_intro (fun h => nomatch h) (fun _ => ?_)
    exact num64 (by omega) (by omega) ⟨i + 1, by omega, by omega, ⟨⟨rfl, rfl, rfl, trivial⟩, trivial, rfl, rfl⟩⟩
  · exact ret_gives rfl rfl
theorem eqBindingS_spec {l : List Bd} {base base' : Option Addr} {cap cap' : Nat} (hl : Sl μ 5 base l.length (l.map Bd.d)) (hl' : Sl μ 5 base' l.length (l.map Bd.d)) :
    Gives Tryz.prog 21 [.slice base l.length cap, .slice base' l.length cap'] μ (.bool true) := eqBindingS_of (fun t _ _ _ => eqBinding_spec t) hl hl'
end
end Go.Vx

/- Types that all arguments are made of. -/
namespace Go.Vx
open Go.Proofs
theorem und_int : Tryz.prog.underlying 3 = some (.int .i64) := ti3.kind
theorem und_bool : Tryz.prog.underlying 4 = some .bool := ti4.kind
theorem und_string : Tryz.prog.underlying 9 = some .string := ti9.kind
theorem lift_list {α : Type} {f : α → D} : ∀ {xs : List D}, (∀ x ∈ xs, ∃ a, x = f a) → ∃ l : List α, xs = l.map f
  | [], _ => ⟨[], rfl⟩
  | x :: xs, h => by
    obtain ⟨a, rfl⟩ := h x (by simp)
    obtain ⟨l, rfl⟩ := lift_list (xs := xs) fun y hy => h y (by simp [hy])
    exact ⟨a :: l, rfl⟩
theorem cellsOf_tt {P : Program} {t : TypeId} {i : TI} (h : TIok P t i) : P.cellsOf t = i.size := by
  obtain ⟨inf, hin, hs, _⟩ := h.info'
  simp [Program.cellsOf, hin, hs]
end Go.Vx

/- What the law calls of terms and bindings read. -/
namespace Go.Vx
open Go.Proofs
theorem read_Term : Reads Tryz.prog 39 fun d => ∃ t : Tm, d = t.d ∧ t.d.wd := fun n => by
  induction n using Nat.strongRecOn with
  | ind n ih =>
    match n, ih with
    | 0, _ => exact ReadsTo.zero _
    | n + 1, ih =>
      have hs : ReadsTo Tryz.prog n 37 fun d => ∃ xs, d = .sl 4 xs ∧ ∀ x ∈ xs, ∃ t : Tm, x = t.d ∧ t.d.wd := by
        match n, ih with
        | 0, _ => exact ReadsTo.zero _
        | n + 1, ih => exact reads_slice ti37.kind (cellsOf_tt ti39) (ih n (by omega)) (fun d h => by obtain ⟨t, rfl, _⟩ := h; exact Tm.d_n t)
      exact (reads_struct ti39 rfl (FieldsTo.cons ti3 (reads_int und_int n) (FieldsTo.cons ti3 (reads_int und_int n) (FieldsTo.cons ti9 (reads_str und_string n) (FieldsTo.cons ti37 hs FieldsTo.nil))))).weaken fun d h => by
        obtain ⟨ds, rfl, h⟩ := h
        obtain ⟨_, _, rfl, ⟨k, rfl, hk⟩, q1⟩ := h.cons
        obtain ⟨_, _, rfl, ⟨n, rfl, hn⟩, q2⟩ := q1.cons
        obtain ⟨_, _, rfl, ⟨s, rfl, hs⟩, q3⟩ := q2.cons
        obtain ⟨_, _, rfl, ⟨xs, rfl, hx⟩, q4⟩ := q3.cons
        obtain rfl := q4.nil
        obtain ⟨l, rfl⟩ := lift_list (f := Tm.d) fun x h => by obtain ⟨t, h, _⟩ := hx x h; exact ⟨t, h⟩
        refine ⟨.mk k n s l, (Tm.d_mk _ _ _ _).symm, ?_⟩
        rw [Tm.d_mk]
        exact ⟨hk, hn, hs, D.wds_of fun x hm => by obtain ⟨t, rfl, h⟩ := hx x hm; exact h, trivial⟩
theorem read_Binding : Reads Tryz.prog 107 fun d => ∃ b : Bd, d = b.d ∧ b.d.wd
  | 0 => ReadsTo.zero _
  | n + 1 => (reads_struct ti107 rfl (FieldsTo.cons ti3 (reads_int und_int n) (FieldsTo.cons ti39 (read_Term n) FieldsTo.nil))).weaken fun d h => by
    obtain ⟨ds, rfl, h⟩ := h
    obtain ⟨_, _, rfl, ⟨v, rfl, hv⟩, q1⟩ := h.cons
    obtain ⟨_, _, rfl, ⟨t, rfl, ht⟩, q2⟩ := q1.cons
    obtain rfl := q2.nil
    exact ⟨⟨v, t⟩, rfl, hv, ht, trivial⟩
theorem read_BindingS : Reads Tryz.prog 22 fun d => ∃ l : List Bd, d = .sl 5 (l.map Bd.d) ∧ D.wds (l.map Bd.d) := fun n =>
  (reads_sl ti22.kind (cellsOf_tt ti107) (fun d h => by obtain ⟨a, rfl, _⟩ := h; exact Bd.d_n a) read_Binding n).weaken fun d h => by
    obtain ⟨xs, rfl, hx⟩ := h
    obtain ⟨l, rfl⟩ := lift_list (f := Bd.d) fun x h => by obtain ⟨t, h, _⟩ := hx x h; exact ⟨t, h⟩
    exact ⟨l, rfl, D.wds_of fun x hm => by obtain ⟨t, rfl, h⟩ := hx x hm; exact h⟩
end Go.Vx

/- Contracts: the marks' texts. -/
namespace Go.Vx
open Go.Proofs Classical
section
variable {μ : Mem}
theorem wrap8 {n : Int} (h1 : 0 ≤ n) (h2 : n < 256) : IntKind.u8.wrap n = n := by
  have e : IntKind.u8.bits = 8 := rfl
  have e2 : IntKind.u8.signed = false := rfl
  simp only [IntKind.wrap, e, e2, Bool.false_and]
  simp only [show (2 : Int) ^ 8 = 256 from rfl]
  simp; omega
theorem bytes_app (a b : List UInt8) : (⟨a.toArray⟩ : ByteArray) ++ ⟨b.toArray⟩ = ⟨(a ++ b).toArray⟩ := by
  have : ((⟨a.toArray⟩ : ByteArray) ++ ⟨b.toArray⟩).data = (a ++ b).toArray := by
    rw [ByteArray.data_append]; simp
  cases h : (⟨a.toArray⟩ : ByteArray) ++ ⟨b.toArray⟩
  rw [h] at this
  simp only at this
  rw [this]
theorem markText_spec (k : Int) (hk : k ≤ 9223372036854775807) : Gives Tryz.prog 84 [.int .i64 k] μ (.string (mtext k)) := by
  refine Spec.mk Tryz.func84 (by kernel_rfl) ?_
  refine ifd (fun h => ret_gives ?_ rfl) (fun h => ?_)
  · rw [mtext, if_pos h]
  obtain ⟨n, rfl⟩ : ∃ n : Nat, k = n := ⟨k.toNat, by omega⟩
  refine loop_intro (fun p : Nat × List UInt8 => digits n = digits p.1 ++ p.2 ∧ p.1 * 2 ^ p.2.length ≤ n ∧ p.2.length ≤ 64) (fun p => ⟨[(0, .val (.int .i64 p.1)), (3, .val (.string ⟨p.2.toArray⟩))], [], 0, μ, Mem.nil⟩) (fun p => p.1)
    (n, []) ⟨by simp, by simp, by simp⟩ (fun i => ⟨rfl, rfl⟩) ⟨⟨rfl, rfl, trivial⟩, trivial, rfl, rfl⟩ ?_
  rintro ⟨m, l⟩ ⟨h1, h2, hlen0⟩
  simp only at h1 h2 hlen0
  refine ifd (fun h3 => ?_) (fun h3 => ?_)
  · have hm : m ≠ 0 := by omega
    have hmn : m ≤ n := Nat.le_trans (Nat.le_mul_of_pos_right _ (Nat.two_pow_pos _)) h2
    have hlen : l.length ≤ 63 := by
      rcases Nat.lt_or_ge 63 l.length with h | h
      · exfalso
        have h4 : 2 ^ 64 ≤ 2 ^ l.length := Nat.pow_le_pow_right (by omega) h
        have h5 : 1 * 2 ^ l.length ≤ m * 2 ^ l.length := Nat.mul_le_mul_right _ (by omega)
        omega
      · exact h
    refine need_intro (by omega) (num_eq (x := ((m % 10 : Nat) : Int)) (by rw [Int.tmod_eq_emod_of_nonneg (by omega)]; omega) ?_)
    refine num64 (by omega) (by omega) (num_eq (wrap8 (by omega) (by omega)) ?_)
    intro r
    have hb : (UInt8.ofNat (48 + m % 10)).toNat = 48 + m % 10 := by
      rw [UInt8.toNat_ofNat']; omega
    refine bytes_intro [UInt8.ofNat (48 + m % 10)] (by simp only [List.map_cons, List.map_nil, hb]; congr 2) ?_
    refine need_intro (by simp [ByteArray.size]; omega) ?_
    refine need_intro (by omega) (num_eq (x := ((m / 10 : Nat) : Int)) (by show IntKind.i64.wrap (Int.tdiv (m : Int) 10) = _; rw [Int.tdiv_eq_ediv_of_nonneg (by omega), wrap64 (by omega) (by omega)]; simp) ?_)
    refine ⟨(m / 10, UInt8.ofNat (48 + m % 10) :: l), ⟨?_, ?_, by simp only [List.length_cons]; omega⟩, by simp only; omega, ⟨⟨rfl, ?_, trivial⟩, trivial, rfl, rfl⟩⟩
    · simp only; rw [h1, digits_pos hm]; simp
    · simp only [List.length_cons, Nat.pow_succ]
      have : m / 10 * 2 ≤ m := by omega
      calc m / 10 * (2 ^ l.length * 2) = (m / 10 * 2) * 2 ^ l.length := by rw [Nat.mul_comm (2 ^ l.length) 2, ← Nat.mul_assoc]
        _ ≤ m * 2 ^ l.length := Nat.mul_le_mul_right _ this
        _ ≤ n := h2
    · simp only [look]
      rw [bytes_app]; rfl
  · have hm : m = 0 := by omega
    subst hm
    refine need_intro (by simp [ByteArray.size]; omega) ?_
    refine ret_gives ?_ rfl
    rw [mtext, if_neg (by omega)]
    have := bytes_app [109] l
    rw [this, Int.toNat_natCast, h1, digits_zero]; rfl
end
end Go.Vx

/- Contracts: marks on terms and bindings, and what holds them. -/
namespace Go.Vx
open Go.Proofs Classical
/-- A row of owned data in the midst of being marked: i elements are done; hh is what the elements own. -/
structure Marking (xs : List D) (k : Int) (rest : List Value) (r : Nat) (j : Nat) (pre tail : List Value) (hh : Mem) : Prop where
  le : j ≤ xs.length
  out : hh r = none
  parts : ∃ post hpre hpost, tail = post ++ rest ∧ Parts hh hpre hpost ∧ OwnS (D.mks (xs.take j) k).1 hpre pre ∧ OwnS (xs.drop j) hpost post
theorem Marking.start {xs : List D} {k : Int} {rest flat : List Value} {r : Nat} {h2 : Mem} (h : h2 r = none) (o : OwnS xs h2 flat) : Marking xs k rest r 0 [] (flat ++ rest) h2 :=
  ⟨by omega, h, flat, Mem.nil, h2, rfl, Parts.nil_left _, ⟨rfl, rfl⟩, by simpa using o⟩
theorem Marking.len {xs : List D} {k : Int} {rest : List Value} {r : Nat} {j es : Nat} {pre tail : List Value} {hh : Mem} (m : Marking xs k rest r j pre tail hh) (hn : ∀ x ∈ xs, x.n = es) : pre.length = j * es := by
  obtain ⟨post, hpre, hpost, rfl, hp, o1, o2⟩ := m.parts
  rw [o1.len, D.mks_n, D.ns_eq (es := es) fun x hx => hn x (List.mem_of_mem_take hx), List.length_take, Nat.min_eq_left m.le]
/-- The next element: what it owns (g), and the rest (m). -/
theorem Marking.next {xs : List D} {k : Int} {rest : List Value} {r : Nat} {j : Nat} {pre tail : List Value} {hh : Mem} (M : Marking xs k rest r j pre tail hh) {x : D} (hx : xs[j]? = some x) :
    ∃ c g m c2, tail = c ++ (c2 ++ rest) ∧ Own x g c ∧ Parts hh g m ∧ m r = none ∧
      (∀ g' c', Apart g' m → g' r = none → Own (x.mk (D.mks (xs.take j) k).2).1 g' c' → Marking xs k rest r (j + 1) (pre ++ c') (c2 ++ rest) (g'.join m)) := by
  obtain ⟨post, hpre, hpost, rfl, hp, o1, o2⟩ := M.parts
  have hlt : j < xs.length := (List.getElem?_eq_some_iff.1 hx).1
  have hdrop : xs.drop j = x :: xs.drop (j + 1) := by
    rw [List.drop_eq_getElem_cons hlt]
    congr 1
    exact (List.getElem?_eq_some_iff.1 hx).2
  rw [hdrop] at o2
  obtain ⟨c, c2, g, g2, rfl, q, u1, u2⟩ := o2
  obtain ⟨m, p1, p2⟩ := hp.assoc q.symm
  have hm : m r = none := by
    cases h : m r with
    | none => rfl
    | some o => have := p2.left r o h; rw [M.out] at this; cases this
  refine ⟨c, g, m, c2, by simp, u1, p2.symm, hm, fun g' c' ha hg ho => ⟨hlt, by rw [Mem.join_get, hg]; exact hm, c2, g'.join hpre, g2, rfl, ?_, ?_, u2⟩⟩
  · have a1 : Apart g' hpre := fun b hb => by
      cases h : hpre b with
      | none => rfl
      | some o => have := ha b hb; rw [p1.left b o h] at this; cases this
    obtain ⟨m2, q1, q2⟩ := (Parts.join ha).assoc p1
    have e := q1.is_join
    subst e
    exact q2
  · rw [D.mks_take hx]
    refine OwnS.append (Parts.symm ?_) o1 (OwnS.last ho)
    refine Parts.join fun b hb => ?_
    cases h : hpre b with
    | none => rfl
    | some o => have := ha b hb; rw [p1.left b o h] at this; cases this
theorem Marking.cnt {xs : List D} {k : Int} {j : Nat} {x : D} (hx : xs[j]? = some x) : (D.mks (xs.take j) k).2 + x.cnt ≤ k + D.cnts xs := by
  have h1 := D.cnts_take xs (j + 1)
  rw [D.mks_cnt]
  rw [List.take_add_one, hx, Option.toList_some, D.cnts_append] at h1
  simp only [D.cnts] at h1
  omega
theorem Marking.last {xs : List D} {k : Int} {rest : List Value} {r : Nat} {pre tail : List Value} {hh : Mem} (M : Marking xs k rest r xs.length pre tail hh) : tail = rest ∧ OwnS (D.mks xs k).1 hh pre := by
  obtain ⟨post, hpre, hpost, rfl, hp, o1, o2⟩ := M.parts
  rw [List.drop_length] at o2
  obtain ⟨rfl, rfl⟩ := o2
  obtain rfl := hp.eq (Parts.nil_right _)
  rw [List.take_length] at o1
  exact ⟨by simp, o1⟩
/-- What a framed call gives back of an element's memory. -/
theorem back_of {g' m H' : Mem} {r : Nat} {o : Obj} (hm : m r = none) (p : Parts H' g' (m.set r o)) : Apart g' m ∧ g' r = none ∧ H' = (g'.join m).set r o := by
  obtain ⟨a1, a2⟩ := Mem.set_apart hm p.apart.symm
  exact ⟨a1.symm, a2, p.eq ((Parts.join a1.symm).set (by rw [Mem.join_get, a2]; exact hm))⟩
theorem Tm.own {t : Tm} {h : Mem} {cs : List Value} (k : Own t.d h cs) : ∃ v, cs = [.int .i64 t.kind, .int .i64 t.num, .string t.name, v] ∧ OwnV (.sl 4 (t.args.map Tm.d)) h v := by
  cases t with
  | mk kd n s l =>
    rw [Tm.d_mk] at k
    obtain ⟨c1, c2, h1, h2, rfl, p, ⟨rfl, rfl⟩, c3, c4, h3, h4, rfl, q, ⟨rfl, rfl⟩, c5, c6, h5, h6, rfl, t, ⟨rfl, rfl⟩, c7, c8, h7, h8, rfl, u, k7, rfl, rfl⟩ := k
    obtain rfl := p.eq (Parts.nil_left _)
    obtain rfl := q.eq (Parts.nil_left _)
    obtain rfl := t.eq (Parts.nil_left _)
    obtain rfl := u.eq (Parts.nil_right _)
    have hl := k7.len
    match c7, hl with
    | [v], _ => exact ⟨v, by simp [Tm.kind, Tm.num, Tm.name], k7⟩
theorem Tm.d_eq (t : Tm) : t.d = .st [.i t.kind, .i t.num, .s t.name, .sl 4 (t.args.map Tm.d)] := by
  cases t; exact Tm.d_mk _ _ _ _
theorem Tm.mk_eq (t : Tm) (k : Int) : t.d.mk k = (.st [.i k, .i (k + 1), .s (mtext (k + 1 + 1)), .sl 4 (D.mks (t.args.map Tm.d) (k + 1 + 1 + 1)).1], (D.mks (t.args.map Tm.d) (k + 1 + 1 + 1)).2) := by
  rw [Tm.d_eq]; simp [D.mk, D.mks]
theorem Tm.cnt_eq (t : Tm) : t.d.cnt = 3 + D.cnts (t.args.map Tm.d) := by
  rw [Tm.d_eq]; simp [D.cnt, D.cnts]; omega
section
variable {μ : Mem}
theorem markTermS_of {l : List Tm} (he : ∀ t ∈ l, ∀ {h : Mem} {v : Value} {k : Int}, OwnV (.sl 4 (t.args.map Tm.d)) h v → 0 ≤ k → k + D.cnts (t.args.map Tm.d) ≤ 9223372036854775807 →
      SpecH Tryz.prog 85 [v, .int .i64 k] μ h fun r μ' h' => r = .int .i64 (D.mks (t.args.map Tm.d) k).2 ∧ μ' = μ ∧ OwnV (.sl 4 (D.mks (t.args.map Tm.d) k).1) h' v)
    {h : Mem} {v : Value} {k : Int} (ho : OwnV (.sl 4 (l.map Tm.d)) h v) (hk : 0 ≤ k) (hk2 : k + D.cnts (l.map Tm.d) ≤ 9223372036854775807) :
    SpecH Tryz.prog 85 [v, .int .i64 k] μ h fun r μ' h' => r = .int .i64 (D.mks (l.map Tm.d) k).2 ∧ μ' = μ ∧ OwnV (.sl 4 (D.mks (l.map Tm.d) k).1) h' v := by
  obtain ⟨base, cap, e, hm, hn, ho⟩ := ho
  simp only [List.cons.injEq, and_true] at e
  subst e
  have hm' : (l.map Tm.d).length ≤ 9223372036854775807 := Nat.le_trans hm.max (by decide)
  refine SpecH.mk [] Tryz.func85 (by kernel_rfl) ?_
  rcases ho with ⟨hnil, rfl⟩ | ⟨r, flat, rest, ty, h2, rfl, hr, rfl, ho⟩
  · rw [hnil]
    refine loop_intro (fun i : Nat => i = 0) (fun i => ⟨[(0, .val (.slice base 0 cap)), (1, .val (.int .i64 k)), (5, .val (.int .i64 i))], [], 0, μ, Mem.nil⟩) (fun i => 0 - i)
      0 rfl (fun i => ⟨rfl, rfl⟩) ⟨⟨rfl, rfl, rfl, trivial⟩, trivial, rfl, rfl⟩ ?_
    rintro i rfl
    refine ifd (fun h => by omega) (fun h => ret_plain ⟨rfl, rfl, base, cap, rfl, ⟨Nat.zero_le _, Nat.zero_le _⟩, by simp [D.mks], .inl ⟨rfl, rfl⟩⟩)
  · generalize hxs : l.map Tm.d = xs at *
    refine loop_intro (fun p : Nat × List Value × List Value × Mem => Marking xs k rest r p.1 p.2.1 p.2.2.1 p.2.2.2)
      (fun (i, pre, tail, hh) => ⟨[(0, .val (.slice (some ⟨r, 0, none⟩) xs.length cap)), (1, .val (.int .i64 (D.mks (xs.take i) k).2)), (5, .val (.int .i64 i))], [], 0, μ, hh.set r (.cells (List.toArray (pre ++ tail)) ty (0, 0))⟩) (fun p => xs.length - p.1)
      (0, [], flat ++ rest, h2) (Marking.start hr ho) (fun (_, _, _, _) => ⟨rfl, rfl⟩) ⟨⟨rfl, rfl, rfl, trivial⟩, trivial, rfl, rfl⟩ ?_
    rintro ⟨i, pre, tail, hh⟩ M
    dsimp only at M
    have hi := M.le
    have hge := D.mks_cnt (xs.take i) k
    refine ifd (fun h => ?_) (fun h => ?_)
    · obtain ⟨t, ht⟩ := at_some (l := l) (i := i) (by rw [← hxs] at h; simp at h; omega)
      have hx : xs[i]? = some t.d := by rw [← hxs]; simp [ht]
      obtain ⟨c, g, m, c2, rfl, hown, hp, hmr, back⟩ := M.next hx
      obtain ⟨v, rfl, hv⟩ := Tm.own hown
      obtain ⟨b2, cap2, rfl⟩ := OwnV.slice hv
      have hlen := M.len hn
      have hcnt := Marking.cnt (k := k) hx
      rw [Tm.cnt_eq] at hcnt
      refine ptr_intro ⟨r, 0, none⟩ rfl (by omega) (by omega) ?_
      refine sto_at (j := 0) (by simp [Addr.add_lit', hlen]) (by simp) ?_
      refine num64 (by omega) (by omega) ?_
      refine ptr_intro ⟨r, 0, none⟩ rfl (by omega) (by omega) ?_
      refine sto_at (j := 1) (by simp [Addr.add_lit', hlen]) (by simp) ?_
      refine num64 (by omega) (by omega) ?_
      refine call_gives (markText_spec _ (by omega)) ?_
      refine ptr_intro ⟨r, 0, none⟩ rfl (by omega) (by omega) ?_
      refine sto_at (j := 2) (by simp [Addr.add_lit', hlen]) (by simp) ?_
      refine num64 (by omega) (by omega) ?_
      refine ptr_intro ⟨r, 0, none⟩ rfl (by omega) (by omega) ?_
      refine own_at (j := 3) (by simp [Addr.add_lit', hlen]) rfl ?_
      refine call_own (SpecH.frame (hp.set M.out) (he t (mem_at ht) hv (by omega) (by omega))) fun v μ' H' hle hap hR => ?_
      obtain ⟨h', ⟨rfl, rfl, ho'⟩, hp'⟩ := hR
      obtain ⟨a1, a2, rfl⟩ := back_of hmr hp'
      have hmk := D.mks_take hx k
      have hmk2 := Tm.mk_eq t (D.mks (xs.take i) k).2
      refine num64 (by omega) (by omega) ⟨(i + 1, pre ++ [.int .i64 (D.mks (xs.take i) k).2, .int .i64 ((D.mks (xs.take i) k).2 + 1), .string (mtext ((D.mks (xs.take i) k).2 + 1 + 1)), .slice b2 (t.args.map Tm.d).length cap2], c2 ++ rest, h'.join m), back _ _ a1 a2 ?_, by dsimp only; omega, ⟨⟨rfl, ?_, rfl, trivial⟩, trivial, rfl, ?_⟩⟩
      · rw [hmk2]
        exact OwnS.int (OwnS.int (OwnS.str (OwnS.last ho')))
      · rw [hmk, hmk2]
        rfl
      · simp
    · have hi' : i = xs.length := by omega
      subst hi'
      obtain ⟨rfl, o1⟩ := M.last
      refine ret_plain ⟨by rw [List.take_length], rfl, some ⟨r, 0, none⟩, cap, by rw [D.mks_length], by rw [D.mks_length]; exact hm, D.mks_size k hn, .inr ⟨r, pre, tail, ty, hh, rfl, M.out, rfl, o1⟩⟩
theorem markTermS_spec {l : List Tm} {h : Mem} {v : Value} {k : Int} (ho : OwnV (.sl 4 (l.map Tm.d)) h v) (hk : 0 ≤ k) (hk2 : k + D.cnts (l.map Tm.d) ≤ 9223372036854775807) :
    SpecH Tryz.prog 85 [v, .int .i64 k] μ h fun r μ' h' => r = .int .i64 (D.mks (l.map Tm.d) k).2 ∧ μ' = μ ∧ OwnV (.sl 4 (D.mks (l.map Tm.d) k).1) h' v :=
  Tm.ind (p := fun t => ∀ {h : Mem} {v : Value} {k : Int}, OwnV (.sl 4 (t.args.map Tm.d)) h v → 0 ≤ k → k + D.cnts (t.args.map Tm.d) ≤ 9223372036854775807 →
      SpecH Tryz.prog 85 [v, .int .i64 k] μ h fun r μ' h' => r = .int .i64 (D.mks (t.args.map Tm.d) k).2 ∧ μ' = μ ∧ OwnV (.sl 4 (D.mks (t.args.map Tm.d) k).1) h' v)
    (fun _ _ _ _ ih _ _ _ => markTermS_of fun t ht _ _ _ => ih t ht) (.mk 0 0 ⟨#[]⟩ l) ho hk hk2
theorem Tm.mt_eq (t : Tm) (k : Int) : t.d.mt k = (.st [.i t.kind, .i t.num, .s t.name, .sl 4 (D.mks (t.args.map Tm.d) k).1], (D.mks (t.args.map Tm.d) k).2) := by
  rw [Tm.d_eq]; simp [D.mt, D.mts]
theorem markTerm_spec (t : Tm) {h : Mem} {v : Value} {k : Int} (ho : OwnV t.d h v) (hk : 0 ≤ k) (hk2 : k + D.cnts (t.args.map Tm.d) ≤ 9223372036854775807) :
    SpecH Tryz.prog 30 [v, .int .i64 k] μ h fun r μ' h' => r = .int .i64 (t.d.mt k).2 ∧ μ' = μ ∧ OwnV (t.d.mt k).1 h' v := by
  have ho2 : ∃ cs, v = .agg (List.toArray cs) ∧ Own t.d h cs := by rw [Tm.d_eq] at ho ⊢; exact ho
  obtain ⟨cs, rfl, ho2⟩ := ho2
  obtain ⟨v, rfl, hv⟩ := Tm.own ho2
  obtain ⟨b2, cap2, rfl⟩ := OwnV.slice hv
  refine SpecH.mk [] Tryz.func30 (by kernel_rfl) ?_
  intro r
  refine call_own (markTermS_spec hv hk hk2) fun v μ' h' hle hap hR => ?_
  obtain ⟨rfl, rfl, ho⟩ := hR
  rw [Tm.mt_eq]
  exact ret_plain ⟨rfl, rfl, _, rfl, OwnS.int (OwnS.int (OwnS.str (OwnS.last ho)))⟩
/-! ### Bindings -/
theorem Bd.own {b : Bd} {h : Mem} {cs : List Value} (k : Own b.d h cs) : ∃ v, cs = [.int .i64 b.var, .int .i64 b.to.kind, .int .i64 b.to.num, .string b.to.name, v] ∧ OwnV (.sl 4 (b.to.args.map Tm.d)) h v := by
  obtain ⟨c1, c2, h1, h2, rfl, p, ⟨rfl, rfl⟩, c3, c4, h3, h4, rfl, q, k3, rfl, rfl⟩ := k
  obtain rfl := p.eq (Parts.nil_left _)
  obtain rfl := q.eq (Parts.nil_right _)
  obtain ⟨v, rfl, hv⟩ := Tm.own k3
  exact ⟨v, by simp, hv⟩
theorem Bd.mk_eq (b : Bd) (k : Int) : b.d.mk k = (.st [.i k, .st [.i (k + 1), .i (k + 1 + 1), .s (mtext (k + 1 + 1 + 1)), .sl 4 (D.mks (b.to.args.map Tm.d) (k + 1 + 1 + 1 + 1)).1]], (D.mks (b.to.args.map Tm.d) (k + 1 + 1 + 1 + 1)).2) := by
  simp only [Bd.d, D.mk, D.mks, Tm.mk_eq]
theorem Bd.cnt_eq (b : Bd) : b.d.cnt = 4 + D.cnts (b.to.args.map Tm.d) := by
  simp only [Bd.d, D.cnt, D.cnts, Tm.cnt_eq]; omega
theorem markBindingS_spec {l : List Bd} {h : Mem} {v : Value} {k : Int} (ho : OwnV (.sl 5 (l.map Bd.d)) h v) (hk : 0 ≤ k) (hk2 : k + D.cnts (l.map Bd.d) ≤ 9223372036854775807) :
    SpecH Tryz.prog 22 [v, .int .i64 k] μ h fun r μ' h' => r = .int .i64 (D.mks (l.map Bd.d) k).2 ∧ μ' = μ ∧ OwnV (.sl 5 (D.mks (l.map Bd.d) k).1) h' v := by
  obtain ⟨base, cap, e, hm, hn, ho⟩ := ho
  simp only [List.cons.injEq, and_true] at e
  subst e
  have hm' : (l.map Bd.d).length ≤ 9223372036854775807 := Nat.le_trans hm.max (by decide)
  refine SpecH.mk [] Tryz.func22 (by kernel_rfl) ?_
  rcases ho with ⟨hnil, rfl⟩ | ⟨r, flat, rest, ty, h2, rfl, hr, rfl, ho⟩
  · rw [hnil]
    refine loop_intro (fun i : Nat => i = 0) (fun i => ⟨[(0, .val (.slice base 0 cap)), (1, .val (.int .i64 k)), (5, .val (.int .i64 i))], [], 0, μ, Mem.nil⟩) (fun i => 0 - i)
      0 rfl (fun i => ⟨rfl, rfl⟩) ⟨⟨rfl, rfl, rfl, trivial⟩, trivial, rfl, rfl⟩ ?_
    rintro i rfl
    refine ifd (fun h => by omega) (fun h => ret_plain ⟨rfl, rfl, base, cap, rfl, ⟨Nat.zero_le _, Nat.zero_le _⟩, by simp [D.mks], .inl ⟨rfl, rfl⟩⟩)
  · generalize hxs : l.map Bd.d = xs at *
    refine loop_intro (fun p : Nat × List Value × List Value × Mem => Marking xs k rest r p.1 p.2.1 p.2.2.1 p.2.2.2)
      (fun (i, pre, tail, hh) => ⟨[(0, .val (.slice (some ⟨r, 0, none⟩) xs.length cap)), (1, .val (.int .i64 (D.mks (xs.take i) k).2)), (5, .val (.int .i64 i))], [], 0, μ, hh.set r (.cells (List.toArray (pre ++ tail)) ty (0, 0))⟩) (fun p => xs.length - p.1)
      (0, [], flat ++ rest, h2) (Marking.start hr ho) (fun (_, _, _, _) => ⟨rfl, rfl⟩) ⟨⟨rfl, rfl, rfl, trivial⟩, trivial, rfl, rfl⟩ ?_
    rintro ⟨i, pre, tail, hh⟩ M
    dsimp only at M
    have hi := M.le
    have hge := D.mks_cnt (xs.take i) k
    refine ifd (fun h => ?_) (fun h => ?_)
    · obtain ⟨t, ht⟩ := at_some (l := l) (i := i) (by rw [← hxs] at h; simp at h; omega)
      have hx : xs[i]? = some t.d := by rw [← hxs]; simp [ht]
      obtain ⟨c, g, m, c2, rfl, hown, hp, hmr, back⟩ := M.next hx
      obtain ⟨v, rfl, hv⟩ := Bd.own hown
      obtain ⟨b2, cap2, rfl⟩ := OwnV.slice hv
      have hlen := M.len hn
      have hcnt := Marking.cnt (k := k) hx
      rw [Bd.cnt_eq] at hcnt
      refine ptr_intro ⟨r, 0, none⟩ rfl (by omega) (by omega) ?_
      refine sto_at (j := 0) (by simp [Addr.add_lit', hlen]) (by simp) ?_
      refine num64 (by omega) (by omega) ?_
      refine ptr_intro ⟨r, 0, none⟩ rfl (by omega) (by omega) ?_
      refine sto_at (j := 1) (by simp [Addr.add_lit', hlen]) (by simp) ?_
      refine num64 (by omega) (by omega) ?_
      refine ptr_intro ⟨r, 0, none⟩ rfl (by omega) (by omega) ?_
      refine sto_at (j := 2) (by simp [Addr.add_lit', hlen]) (by simp) ?_
      refine num64 (by omega) (by omega) ?_
      refine call_gives (markText_spec _ (by omega)) ?_
      refine ptr_intro ⟨r, 0, none⟩ rfl (by omega) (by omega) ?_
      refine sto_at (j := 3) (by simp [Addr.add_lit', hlen]) (by simp) ?_
      refine num64 (by omega) (by omega) ?_
      refine ptr_intro ⟨r, 0, none⟩ rfl (by omega) (by omega) ?_
      refine own_at (j := 4) (by simp [Addr.add_lit', hlen]) rfl ?_
      refine call_own (SpecH.frame (hp.set M.out) (markTermS_spec hv (by omega) (by omega))) fun v μ' H' hle hap hR => ?_
      obtain ⟨h', ⟨rfl, rfl, ho'⟩, hp'⟩ := hR
      obtain ⟨a1, a2, rfl⟩ := back_of hmr hp'
      have hmk := D.mks_take hx k
      have hmk2 := Bd.mk_eq t (D.mks (xs.take i) k).2
      refine num64 (by omega) (by omega) ⟨(i + 1, pre ++ [.int .i64 (D.mks (xs.take i) k).2, .int .i64 ((D.mks (xs.take i) k).2 + 1), .int .i64 ((D.mks (xs.take i) k).2 + 1 + 1), .string (mtext ((D.mks (xs.take i) k).2 + 1 + 1 + 1)), .slice b2 (t.to.args.map Tm.d).length cap2], c2 ++ rest, h'.join m), back _ _ a1 a2 ?_, by dsimp only; omega, ⟨⟨rfl, ?_, rfl, trivial⟩, trivial, rfl, ?_⟩⟩
      · rw [hmk2]
        exact OwnS.int (OwnS.last (OwnS.int (OwnS.int (OwnS.str (OwnS.last ho')))))
      · rw [hmk, hmk2]
        rfl
      · simp
    · have hi' : i = xs.length := by omega
      subst hi'
      obtain ⟨rfl, o1⟩ := M.last
      refine ret_plain ⟨by rw [List.take_length], rfl, some ⟨r, 0, none⟩, cap, by rw [D.mks_length], by rw [D.mks_length]; exact hm, D.mks_size k hn, .inr ⟨r, pre, tail, ty, hh, rfl, M.out, rfl, o1⟩⟩
end
end Go.Vx

/- What the texts on types of data share. -/
namespace Go.Vx
open Go.Proofs Classical
abbrev Tm.P := Option Addr × Nat
abbrev Bd.P := Option Addr × Nat
section
variable {μ : Mem}
theorem Tm.ownR {t : Tm} {h : Mem} {cs : List Value} (k : Own t.d h cs) : ∃ p : Tm.P, cs = t.cs p ∧ OwnV (.sl 4 (t.args.map Tm.d)) h (.slice p.1 t.args.length p.2) := by
  obtain ⟨v, rfl, hv⟩ := Tm.own k
  obtain ⟨b, c, rfl⟩ := OwnV.slice hv
  rw [List.length_map] at hv ⊢
  exact ⟨(b, c), rfl, hv⟩
theorem Bd.ownR {t : Bd} {h : Mem} {cs : List Value} (k : Own t.d h cs) : ∃ p : Bd.P, cs = t.cs p ∧ OwnV (.sl 4 (t.to.args.map Tm.d)) h (.slice p.1 t.to.args.length p.2) := by
  obtain ⟨v, rfl, hv⟩ := Bd.own k
  obtain ⟨b, c, rfl⟩ := OwnV.slice hv
  rw [List.length_map] at hv ⊢
  exact ⟨(b, c), rfl, hv⟩
theorem Bd.d_eq (b : Bd) : b.d = .st [.i b.var, b.to.d] := rfl
theorem one_of {α : Type} {l : List α} (h : l.length = 1) : ∃ v, l = [v] := List.length_eq_one_iff.1 h
/-- Fresh memory of the parts of a struct. -/
def FreshS (μ μ' : Mem) (ds : List D) (cs : List Value) : Prop := ∃ g : Mem, OwnS ds g cs ∧ g.Le μ' ∧ ∀ b, g b ≠ none → μ b = none
variable {μ1 μ' : Mem}
theorem FreshS.nil : FreshS μ μ' [] [] := ⟨Mem.nil, ⟨rfl, rfl⟩, (fun _ _ h => nomatch h), fun _ h => absurd rfl h⟩
theorem FreshS.int {n : Int} {ds : List D} {cs : List Value} (k : FreshS μ μ' ds cs) : FreshS μ μ' (.i n :: ds) (.int .i64 n :: cs) := by
  obtain ⟨g, a, b, c⟩ := k
  exact ⟨g, OwnS.int a, b, c⟩
theorem FreshS.bool {n : Bool} {ds : List D} {cs : List Value} (k : FreshS μ μ' ds cs) : FreshS μ μ' (.b n :: ds) (.bool n :: cs) := by
  obtain ⟨g, a, b, c⟩ := k
  exact ⟨g, OwnS.bool a, b, c⟩
theorem FreshS.str {n : ByteArray} {ds : List D} {cs : List Value} (k : FreshS μ μ' ds cs) : FreshS μ μ' (.s n :: ds) (.string n :: cs) := by
  obtain ⟨g, a, b, c⟩ := k
  exact ⟨g, OwnS.str a, b, c⟩
theorem FreshS.cons {d : D} {v : Value} {ds : List D} {cs : List Value} (k1 : Fresh μ μ1 d v) (h1 : μ.Le μ1) (h2 : μ1.Le μ') (k : FreshS μ1 μ' ds cs) : FreshS μ μ' (d :: ds) (vcells v ++ cs) := by
  obtain ⟨g1, a1, b1, c1⟩ := k1
  obtain ⟨g, a, b, c⟩ := k
  refine ⟨g1.join g, OwnS.cons (Parts.join (fresh_apart b1 c)) a1.cells a, join_le (b1.trans h2) b, fun x hx => ?_⟩
  rcases join_ne hx with h | h
  · exact c1 x h
  · have h3 := c x h
    cases h0 : μ x with
    | none => rfl
    | some o => rw [h1 x o h0] at h3; cases h3
theorem FreshS.mono {μ0 : Mem} {ds : List D} {cs : List Value} (k : FreshS μ1 μ' ds cs) (h : μ0.Le μ1) : FreshS μ0 μ' ds cs := by
  obtain ⟨g, a, b, c⟩ := k
  refine ⟨g, a, b, fun x hx => ?_⟩
  have h3 := c x hx
  cases h0 : μ0 x with
  | none => rfl
  | some o => rw [h x o h0] at h3; cases h3
theorem FreshS.st {ds : List D} {cs : List Value} (k : FreshS μ μ' ds cs) : Fresh μ μ' (.st ds) (.agg cs.toArray) := by
  obtain ⟨g, a, b, c⟩ := k
  exact ⟨g, ⟨cs, rfl, a⟩, b, c⟩
theorem Mem.nil_join (g : Mem) : Mem.nil.join g = g := rfl
end
end Go.Vx

/- Contracts: the laws' own functions on values of the type Mark: sizes, copies, equality, marks; what an argument reads. (By gen_types.py.) -/
namespace Go.Vx
open Go.Proofs Classical
structure Mk where
  var : Int
  tag : ByteArray
def Mk.d (x : Mk) : D := .st [.i x.var, .s x.tag]
theorem Mk.d_eq (x : Mk) : x.d = .st [.i x.var, .s x.tag] := rfl
theorem Mk.d_n (x : Mk) : x.d.n = 2 := by
  rw [Mk.d_eq]
  simp only [D.n, D.ns]
abbrev Mk.P := Unit
/-- The cells of a value. -/
def Mk.cs (x : Mk) (p : Mk.P) : List Value := [.int .i64 x.var, .string x.tag]
section
variable {μ : Mem}
def Mk.At (μ : Mem) (x : Mk) (p : Mk.P) : Prop := True
theorem Mk.invA {x : Mk} {cs : List Value} (h : Rep μ x.d cs) : ∃ p : Mk.P, cs = x.cs p ∧ Mk.At μ x p := by
  rw [Mk.d_eq] at h
  obtain ⟨a0, t0, rfl, h0, h⟩ := h
  have h0 : a0 = [.int .i64 x.var] := h0
  subst h0
  obtain ⟨a1, t1, rfl, h1, h⟩ := h
  have h1 : a1 = [.string x.tag] := h1
  subst h1
  obtain rfl : t1 = [] := h
  exact ⟨(), by simp [Mk.cs], trivial⟩
theorem Mk.rep {x : Mk} {cs : List Value} (h : Rep μ x.d cs) : RepV μ x.d (.agg cs.toArray) := by
  rw [Mk.d_eq] at h ⊢; exact ⟨cs, rfl, h⟩
theorem Mk.inv {x : Mk} {v : Value} (h : RepV μ x.d v) : ∃ p : Mk.P, v = .agg #[.int .i64 x.var, .string x.tag] ∧ Mk.At μ x p := by
  have h2 : ∃ cs, v = .agg (List.toArray cs) ∧ Rep μ x.d cs := by rw [Mk.d_eq] at h ⊢; exact h
  obtain ⟨cs, rfl, h3⟩ := h2
  obtain ⟨p, rfl, hA⟩ := Mk.invA h3
  exact ⟨p, rfl, hA⟩
theorem Mk.invV {x : Mk} {v : Value} (h : RepV μ x.d v) : ∃ p : Mk.P, v = .agg #[.int .i64 x.var, .string x.tag] := by
  obtain ⟨p, h, _⟩ := Mk.inv h
  exact ⟨p, h⟩
theorem Mk.elemA {l : List Mk} {base : Option Addr} {n : Nat} (h : Sl μ 2 base n (l.map Mk.d)) {i : Nat} {x : Mk} (hx : l[i]? = some x) : ∃ ad, ∃ p : Mk.P, ElemAt μ base n 2 i ad (x.cs p) ∧ RepV μ x.d (.agg (x.cs p).toArray) ∧ Mk.At μ x p := by
  obtain ⟨ad, cs, h1, h2⟩ := h.get i x.d (by simp [hx])
  obtain ⟨p, rfl, hA⟩ := Mk.invA h2
  exact ⟨ad, p, h1, Mk.rep h2, hA⟩
theorem Mk.elem {l : List Mk} {base : Option Addr} {n : Nat} (h : Sl μ 2 base n (l.map Mk.d)) {i : Nat} {x : Mk} (hx : l[i]? = some x) : ∃ ad, ∃ p : Mk.P, ElemAt μ base n 2 i ad (x.cs p) ∧ RepV μ x.d (.agg (x.cs p).toArray) := by
  obtain ⟨ad, p, h1, h2, _⟩ := Mk.elemA h hx
  exact ⟨ad, p, h1, h2⟩
theorem Mk.ownR {x : Mk} {h : Mem} {cs : List Value} (k : Own x.d h cs) : ∃ p : Mk.P, cs = x.cs p ∧ h = Mem.nil := by
  rw [Mk.d_eq] at k
  obtain ⟨a0, t0, h0, r0, rfl, q0, o0, k⟩ := k
  obtain ⟨rfl, rfl⟩ := o0
  obtain rfl := q0.eq (Parts.nil_left _)
  obtain ⟨a1, t1, h1, r1, rfl, q1, o1, k⟩ := k
  obtain ⟨rfl, rfl⟩ := o1
  obtain rfl := q1.eq (Parts.nil_left _)
  obtain ⟨rfl, rfl⟩ := k
  exact ⟨(), by simp [Mk.cs], rfl⟩
theorem Mk.sz_eq (x : Mk) : x.d.sz = x.tag.size := by
  rw [Mk.d_eq]
  simp [D.sz, D.szs]
theorem szMark_spec (x : Mk) {v : Value} {left : Int} (hv : RepV μ x.d v) (hl : 0 ≤ left) (hl2 : left ≤ 1048576) (hw : x.d.wd) : Gives Tryz.prog 73 [v, .int .i64 left] μ (.int .i64 (szR left x.d.sz)) := by
  obtain ⟨p, rfl, hA⟩ := Mk.inv hv
  have hsz := Mk.sz_eq x
  rw [Mk.d_eq] at hw
  have m1 := maxLen_le hw.2.1
  refine Spec.mk Tryz.func73 (by kernel_rfl) ?_
  intro r
  refine num64 (by omega) (by omega) (ifd (fun h => ret_gives (by rw [szR_neg (by omega)]) rfl) (fun h => ?_))
  refine ret_gives ?_ rfl
  rw [szR_pos (by omega)]
  first | rfl | (congr 1; omega)
theorem szMarkS_of {l : List Mk} (he : ∀ t ∈ l, ∀ {v : Value} {left : Int}, RepV μ t.d v → 0 ≤ left → left ≤ 1048576 → t.d.wd → Gives Tryz.prog 73 [v, .int .i64 left] μ (.int .i64 (szR left t.d.sz)))
    {base : Option Addr} {cap : Nat} {left : Int} (hsl : Sl μ 2 base l.length (l.map Mk.d)) (hl : 0 ≤ left) (hl2 : left ≤ 1048576) (hw : D.wds (l.map Mk.d)) :
    Gives Tryz.prog 15 [.slice base l.length cap, .int .i64 left] μ (.int .i64 (szR left (l.length + D.szs (l.map Mk.d)))) := by
  have hn := maxLen_le hsl.max
  refine Spec.mk Tryz.func15 (by kernel_rfl) ?_
  refine num64 (by omega) (by omega) (ifd (fun h => ret_gives ?_ rfl) (fun h => ?_))
  · rw [szR_neg (by omega)]
  refine loop_intro (fun i : Nat => i ≤ l.length ∧ (D.szs ((l.map Mk.d).take i) : Int) ≤ left - l.length) (fun i => ⟨[(0, .val (.slice base l.length cap)), (1, .val (.int .i64 (left - l.length - D.szs ((l.map Mk.d).take i)))), (5, .val (.int .i64 i))], [], 0, μ, Mem.nil⟩) (fun i => l.length - i)
    0 ⟨by omega, by simp [D.szs]; omega⟩ (fun i => ⟨rfl, rfl⟩) ⟨⟨rfl, by show some (SV.val (.int .i64 _)) = some (SV.val (.int .i64 _)); congr 3; simp [D.szs], rfl, trivial⟩, trivial, rfl, rfl⟩ ?_
  rintro i ⟨hi, hz⟩
  refine ifd (fun h => ?_) (fun h => ?_)
  · obtain ⟨t, ht⟩ := at_some (l := l) (i := i) (by omega)
    have hx := at_map (f := Mk.d) ht
    have hs := D.szs_take hx
    have hs' := D.szs_le (l.map Mk.d) (i + 1)
    obtain ⟨ad, p, hel, hr⟩ := Mk.elem hsl ht
    refine elem_intro hel (call_gives (he t (mem_at ht) hr (by omega) (by omega) (D.wds_mem hw _ (mem_at hx))) ?_)
    refine ifd (fun h => ret_gives ?_ rfl) (fun h => ?_)
    · have := szR_lt h
      rw [szR_neg (by omega)]
    · have := szR_ge h
      refine num64 (by omega) (by omega) ⟨i + 1, ⟨by omega, by omega⟩, by omega, ⟨⟨rfl, ?_, rfl, trivial⟩, trivial, rfl, rfl⟩⟩
      rw [szR_pos this, hs]
      show some (SV.val (.int .i64 _)) = some (SV.val (.int .i64 _))
      congr 3; omega
  · obtain rfl : i = l.length := by omega
    rw [List.take_of_length_le (by simp)] at hz ⊢
    refine ret_gives ?_ rfl
    rw [szR_pos (by omega)]; congr 1; omega
theorem szMarkS_spec {l : List Mk} {base : Option Addr} {cap : Nat} {left : Int} (hsl : Sl μ 2 base l.length (l.map Mk.d)) (hl : 0 ≤ left) (hl2 : left ≤ 1048576) (hw : D.wds (l.map Mk.d)) :
    Gives Tryz.prog 15 [.slice base l.length cap, .int .i64 left] μ (.int .i64 (szR left (l.length + D.szs (l.map Mk.d)))) := szMarkS_of (fun t _ _ _ => szMark_spec t) hsl hl hl2 hw
set_option maxRecDepth 4000 in
theorem toMark_spec (x : Mk) {μ : Mem} {v : Value} (hv : RepV μ x.d v) (hb : x.d.sz ≤ 1048576) : Spec Tryz.prog 78 [v] μ fun v μ' => Fresh μ μ' x.d v := by
  obtain ⟨p, rfl, hA⟩ := Mk.inv hv
  have hsz := Mk.sz_eq x
  refine Spec.mk Tryz.func78 (by kernel_rfl) ?_
  intro r1 r2 r3
  rw [Mk.d_eq]
  exact ret_plain (FreshS.st (FreshS.int (FreshS.str (FreshS.nil))))
theorem toMarkS_of {l : List Mk} (he : ∀ t ∈ l, ∀ {μ : Mem} {v : Value}, RepV μ t.d v → t.d.sz ≤ 1048576 → Spec Tryz.prog 78 [v] μ fun v μ' => Fresh μ μ' t.d v)
    {base : Option Addr} {cap : Nat} (hsl : Sl μ 2 base l.length (l.map Mk.d)) (hb : l.length + D.szs (l.map Mk.d) ≤ 1048576) :
    Spec Tryz.prog 18 [.slice base l.length cap] μ fun v μ' => Fresh μ μ' (.sl 2 (l.map Mk.d)) v := by
  refine Spec.mk Tryz.func18 (by kernel_rfl) ?_
  refine make_intro l.length rfl rfl (by simp only; omega) (Nat.le_trans (m := 1048576) (by omega) (by decide)) ?_
  intro r
  refine loop_intro (fun p : Nat × List Value × Mem => μ.Le p.2.2 ∧ ∃ g, Filled 2 (.agg #[.int .i64 0, .string ⟨#[]⟩]) μ p.2.2 (l.map Mk.d) p.1 p.2.1 g)
    (fun (i, xs, μ') => ⟨[(0, .val (.slice base l.length cap)), (3, .row 0 (some r) l.length l.length), (4, .val (.int .i64 i))], [(0, some (.row (some r) l.length 116 2 xs))], 1, μ', Mem.nil⟩) (fun p => l.length - p.1)
    (0, List.replicate l.length (.agg #[.int .i64 0, .string ⟨#[]⟩]), μ) ⟨Mem.Le.refl μ, _, Filled.start (by simp)⟩ (fun (_, _, _) => ⟨rfl, rfl⟩) ⟨⟨rfl, rfl, rfl, trivial⟩, ⟨rfl, trivial⟩, rfl, rfl⟩ ?_
  rintro ⟨i, xs, μ'⟩ ⟨hle, g, hf⟩
  dsimp only at hle hf
  have hi := hf.le
  have hlen := hf.len
  rw [List.length_map] at hi hlen
  refine ifd (fun h => ?_) (fun h => ?_)
  · obtain ⟨t, ht⟩ := at_some (l := l) (i := i) (by omega)
    have hx := at_map (f := Mk.d) ht
    have hs := D.szs_mem hx
    obtain ⟨ad, p, hel, hr⟩ := Mk.elem (hsl.mono hle) ht
    refine elem_intro hel (call_plain (he t (mem_at ht) hr (by omega)) fun v μ'' hle2 hfr => ?_)
    obtain ⟨g', hf'⟩ := hf.step hx (Mk.d_n t) hfr hle2
    obtain ⟨p2, rfl⟩ := Mk.invV hfr.rep
    refine rel_intro i rfl (by omega) ?_
    refine get_intro _ (hf.rest i (by omega) (by simpa using h)) ?_
    refine num64 (by omega) (by omega) ⟨(i + 1, _, μ''), ⟨hle.trans hle2, g', hf'⟩, by dsimp only; omega, ⟨⟨rfl, rfl, rfl, trivial⟩, ⟨rfl, trivial⟩, rfl, rfl⟩⟩
  · obtain rfl : i = l.length := by omega
    refine ret_frz [0] fun μ2 hle2 hno hrow => .inl ?_
    have := Fresh.ofRow (hf.all (by simp)) hf.sub hf.new hle hle2 hno hrow (Nat.le_trans (m := 1048576) (by omega) (by decide))
    rw [hlen] at this
    exact this
theorem toMarkS_spec {l : List Mk} {base : Option Addr} {cap : Nat} (hsl : Sl μ 2 base l.length (l.map Mk.d)) (hb : l.length + D.szs (l.map Mk.d) ≤ 1048576) :
    Spec Tryz.prog 18 [.slice base l.length cap] μ fun v μ' => Fresh μ μ' (.sl 2 (l.map Mk.d)) v := toMarkS_of (fun t _ _ _ => toMark_spec t) hsl hb
theorem eqMark_spec (x : Mk) {v v' : Value} (hv : RepV μ x.d v) (hv' : RepV μ x.d v') : Gives Tryz.prog 82 [v, v'] μ (.bool true) := by
  obtain ⟨p, rfl, hA⟩ := Mk.inv hv
  obtain ⟨p', rfl, hB⟩ := Mk.inv hv'
  refine Spec.mk Tryz.func82 (by kernel_rfl) ?_
  intro r1 r2
  refine ifnd (fun h => absurd rfl h) (fun _ => ?_)
  refine ifnd (fun h => absurd rfl h) (fun _ => ?_)
  exact ret_gives rfl rfl
theorem eqMarkS_of {l : List Mk} (he : ∀ t ∈ l, ∀ {v v' : Value}, RepV μ t.d v → RepV μ t.d v' → Gives Tryz.prog 82 [v, v'] μ (.bool true))
    {base base' : Option Addr} {cap cap' : Nat} (hl : Sl μ 2 base l.length (l.map Mk.d)) (hl' : Sl μ 2 base' l.length (l.map Mk.d)) :
    Gives Tryz.prog 20 [.slice base l.length cap, .slice base' l.length cap'] μ (.bool true) := by
  have hn := maxLen_le hl.max
  refine Spec.mk Tryz.func20 (by kernel_rfl) ?_
  refine ifnd (fun h => absurd rfl h) (fun _ => ?_)
  refine loop_intro (fun i : Nat => i ≤ l.length) (fun i => ⟨[(0, .val (.slice base l.length cap)), (1, .val (.slice base' l.length cap')), (5, .val (.int .i64 i))], [], 0, μ, Mem.nil⟩) (fun i => l.length - i)
    0 (by omega) (fun i => ⟨rfl, rfl⟩) ⟨⟨rfl, rfl, rfl, trivial⟩, trivial, rfl, rfl⟩ ?_
  intro i hi
  refine ifd (fun h => ?_) (fun h => ?_)
  · obtain ⟨t, ht⟩ := at_some (l := l) (i := i) (by omega)
    obtain ⟨ad, p, hel, hr⟩ := Mk.elem hl ht
    obtain ⟨ad', p', hel', hr'⟩ := Mk.elem hl' ht
    refine elem_intro hel (elem_intro hel' (call_gives (he t (mem_at ht) hr hr') ?_))
    refine if_intro (fun h => nomatch h) (fun _ => ?_)
    exact num64 (by omega) (by omega) ⟨i + 1, by omega, by omega, ⟨⟨rfl, rfl, rfl, trivial⟩, trivial, rfl, rfl⟩⟩
  · exact ret_gives rfl rfl
theorem eqMarkS_spec {l : List Mk} {base base' : Option Addr} {cap cap' : Nat} (hl : Sl μ 2 base l.length (l.map Mk.d)) (hl' : Sl μ 2 base' l.length (l.map Mk.d)) :
    Gives Tryz.prog 20 [.slice base l.length cap, .slice base' l.length cap'] μ (.bool true) := eqMarkS_of (fun t _ _ _ => eqMark_spec t) hl hl'
theorem Mk.mk_eq (x : Mk) (k : Int) : x.d.mk k = (.st [.i (k), .s (mtext (k + 1))], k + 1 + 1) := by
  rw [Mk.d_eq]
  simp only [D.mk, D.mks]
theorem Mk.cnt_eq (x : Mk) : x.d.cnt = 2 := by
  rw [Mk.d_eq]
  simp only [D.cnt, D.cnts]
set_option maxHeartbeats 1000000 in
theorem markMarkS_spec {l : List Mk} {h : Mem} {v : Value} {k : Int} (ho : OwnV (.sl 2 (l.map Mk.d)) h v) (hk : 0 ≤ k) (hk2 : k + D.cnts (l.map Mk.d) ≤ 9223372036854775807) :
    SpecH Tryz.prog 23 [v, .int .i64 k] μ h fun r μ' h' => r = .int .i64 (D.mks (l.map Mk.d) k).2 ∧ μ' = μ ∧ OwnV (.sl 2 (D.mks (l.map Mk.d) k).1) h' v := by
  obtain ⟨base, cap, e, hm, hn, ho⟩ := ho
  simp only [List.cons.injEq, and_true] at e
  subst e
  have hm' : (l.map Mk.d).length ≤ 9223372036854775807 := Nat.le_trans hm.max (by decide)
  refine SpecH.mk [] Tryz.func23 (by kernel_rfl) ?_
  rcases ho with ⟨hnil, rfl⟩ | ⟨r, flat, rest, ty, h2, rfl, hr, rfl, ho⟩
  · rw [hnil]
    refine loop_intro (fun i : Nat => i = 0) (fun i => ⟨[(0, .val (.slice base 0 cap)), (1, .val (.int .i64 k)), (5, .val (.int .i64 i))], [], 0, μ, Mem.nil⟩) (fun i => 0 - i)
      0 rfl (fun i => ⟨rfl, rfl⟩) ⟨⟨rfl, rfl, rfl, trivial⟩, trivial, rfl, rfl⟩ ?_
    rintro i rfl
    refine ifd (fun h => by omega) (fun h => ret_plain ⟨rfl, rfl, base, cap, rfl, ⟨Nat.zero_le _, Nat.zero_le _⟩, by simp [D.mks], .inl ⟨rfl, rfl⟩⟩)
  · generalize hxs : l.map Mk.d = xs at *
    refine loop_intro (fun p : Nat × List Value × List Value × Mem => Marking xs k rest r p.1 p.2.1 p.2.2.1 p.2.2.2)
      (fun (i, pre, tail, hh) => ⟨[(0, .val (.slice (some ⟨r, 0, none⟩) xs.length cap)), (1, .val (.int .i64 (D.mks (xs.take i) k).2)), (5, .val (.int .i64 i))], [], 0, μ, hh.set r (.cells (List.toArray (pre ++ tail)) ty (0, 0))⟩) (fun p => xs.length - p.1)
      (0, [], flat ++ rest, h2) (Marking.start hr ho) (fun (_, _, _, _) => ⟨rfl, rfl⟩) ⟨⟨rfl, rfl, rfl, trivial⟩, trivial, rfl, rfl⟩ ?_
    rintro ⟨i, pre, tail, hh⟩ M
    dsimp only at M
    have hi := M.le
    have hge := D.mks_cnt (xs.take i) k
    refine ifd (fun h => ?_) (fun h => ?_)
    · obtain ⟨x, ht⟩ := at_some (l := l) (i := i) (by rw [← hxs] at h; simp at h; omega)
      have hx : xs[i]? = some x.d := by rw [← hxs]; simp [ht]
      obtain ⟨c, g, m, c2, rfl, hown, hp, hmr, back⟩ := M.next hx
      obtain ⟨p, rfl, ch⟩ := Mk.ownR hown
      have hlen := M.len hn
      have hcnt := Marking.cnt (k := k) hx
      rw [Mk.cnt_eq] at hcnt
      generalize hk0 : (D.mks (xs.take i) k).2 = k0 at *
      subst ch
      have P0 := hp.symm
      have R0 := M.out
      refine ptr_intro ⟨r, 0, none⟩ rfl (by omega) (by omega) ?_
      refine sto_at (j := 0) (by simp [Addr.add_lit', hlen]) (by simp [Mk.cs]) ?_
      refine num64 (by omega) (by omega) ?_
      refine call_gives (markText_spec _ (by omega)) ?_
      refine ptr_intro ⟨r, 0, none⟩ rfl (by omega) (by omega) ?_
      refine sto_at (j := 1) (by simp [Addr.add_lit', hlen]) (by simp [Mk.cs]) ?_
      refine num64 (by omega) (by omega) ?_
      obtain rfl := hp.eq (Parts.nil_left _)
      have hmk := D.mks_take hx k
      have hmk2 := Mk.mk_eq x k0
      rw [hk0] at hmk
      refine num64 (by omega) (by omega) ⟨(i + 1, pre ++ [.int .i64 (k0), .string (mtext (k0 + 1))], c2 ++ rest, Mem.join Mem.nil hh), back _ _ (Apart.nil_left _) rfl ?_, by dsimp only; omega, ⟨⟨rfl, ?_, rfl, trivial⟩, trivial, rfl, ?_⟩⟩
      · rw [hmk2]
        exact OwnS.int (OwnS.str (OwnS.nil))
      · rw [hmk, hmk2]
        rfl
      · simp [Mk.cs, Tm.cs, Bd.cs, Mem.nil_join]
    · have hi' : i = xs.length := by omega
      subst hi'
      obtain ⟨rfl, o1⟩ := M.last
      refine ret_plain ⟨by rw [List.take_length], rfl, some ⟨r, 0, none⟩, cap, by rw [D.mks_length], by rw [D.mks_length]; exact hm, D.mks_size k hn, .inr ⟨r, pre, tail, ty, hh, rfl, M.out, rfl, o1⟩⟩
set_option maxHeartbeats 1000000 in
theorem heldMarkS_spec {l : List Mk} {v : Value} {k : Int} (ho : RepV μ (.sl 2 (D.mks (l.map Mk.d) k).1) v) (hk : 0 ≤ k) (hk2 : k + D.cnts (l.map Mk.d) ≤ 9223372036854775807) :
    Gives Tryz.prog 24 [v, .int .i64 k] μ (.int .i64 (D.mks (l.map Mk.d) k).2) := by
  obtain ⟨base, cap, rfl, hsl⟩ := Rep.sl ho
  have hm' := Nat.le_trans hsl.max (show maxLen ≤ 9223372036854775807 by decide)
  rw [D.mks_length] at hm' hsl ⊢
  refine Spec.mk Tryz.func24 (by kernel_rfl) ?_
  generalize hxs : l.map Mk.d = xs at *
  refine loop_intro (fun i : Nat => i ≤ xs.length) (fun i => ⟨[(0, .val (.slice base xs.length cap)), (1, .val (.int .i64 (D.mks (xs.take i) k).2)), (5, .val (.int .i64 i))], [], 0, μ, Mem.nil⟩) (fun i => xs.length - i)
    0 (by simp) (fun i => ⟨rfl, rfl⟩) ⟨⟨rfl, rfl, rfl, trivial⟩, trivial, rfl, rfl⟩ ?_
  intro i hi
  have hge := D.mks_cnt (xs.take i) k
  refine ifd (fun h => ?_) (fun h => ?_)
  · obtain ⟨x, ht⟩ := at_some (l := l) (i := i) (by rw [← hxs] at h; simp at h; omega)
    have hx : xs[i]? = some x.d := by rw [← hxs]; simp [ht]
    have hcnt := Marking.cnt (k := k) hx
    rw [Mk.cnt_eq] at hcnt
    obtain ⟨ad, cs, hel, hcs⟩ := hsl.get i _ (D.mks_get hx k)
    have hmk := D.mks_take hx k
    generalize hk0 : (D.mks (xs.take i) k).2 = k0 at *
    have hmk2 := Mk.mk_eq x k0
    rw [hmk2] at hcs
    obtain ⟨_, _, rfl, rfl, _, _, rfl, rfl, rfl⟩ := hcs
    refine elem_intro hel ?_
    refine ifnd (fun h => absurd rfl h) fun _ => ?_
    refine num64 (by omega) (by omega) ?_
    refine elem_intro hel ?_
    refine call_gives (markText_spec _ (by omega)) ?_
    refine ifnd (fun h => absurd rfl h) fun _ => ?_
    refine num64 (by omega) (by omega) ?_
    exact num64 (by omega) (by omega) ⟨i + 1, by omega, by omega, ⟨⟨rfl, by rw [hmk, hmk2]; rfl, rfl, trivial⟩, trivial, rfl, rfl⟩⟩
  · have hi' : i = xs.length := by omega
    subst hi'
    rw [List.take_length]
    exact ret_gives rfl rfl
theorem read_Mark : Reads Tryz.prog 110 fun d => ∃ x : Mk, d = x.d ∧ x.d.wd
  | 0 => ReadsTo.zero _
  | n + 1 => (reads_struct ti110 rfl (FieldsTo.cons ti3 (reads_int und_int n) (FieldsTo.cons ti9 (reads_str und_string n) FieldsTo.nil))).weaken fun d h => by
    obtain ⟨ds, rfl, h⟩ := h
    obtain ⟨_, _, rfl, ⟨x0, rfl, w0⟩, q0⟩ := h.cons
    obtain ⟨_, _, rfl, ⟨x1, rfl, w1⟩, q1⟩ := q0.cons
    obtain rfl := q1.nil
    refine ⟨.mk x0 x1, (Mk.d_eq (.mk x0 x1)).symm, ?_⟩
    rw [Mk.d_eq]
    exact ⟨w0, w1, trivial⟩
theorem read_MarkS : Reads Tryz.prog 23 fun d => ∃ l : List Mk, d = .sl 2 (l.map Mk.d) ∧ D.wds (l.map Mk.d) := fun n =>
  (reads_sl ti23.kind (cellsOf_tt ti110) (fun d h => by obtain ⟨a, rfl, _⟩ := h; exact Mk.d_n a) read_Mark n).weaken fun d h => by
    obtain ⟨xs, rfl, hx⟩ := h
    obtain ⟨l, rfl⟩ := lift_list (f := Mk.d) fun x h => by obtain ⟨t, h, _⟩ := hx x h; exact ⟨t, h⟩
    exact ⟨l, rfl, D.wds_of fun x hm => by obtain ⟨t, rfl, h⟩ := hx x hm; exact h⟩
end
end Go.Vx

/- Terms, plain: shapes, sizes, variables. -/
namespace Go.Vx
open Go.Proofs Classical
def Str.nil : ByteArray := ⟨#[]⟩
/-- Terms that are well-formed. -/
inductive T where
  | nil
  | var (n : Int)
  | sym (s : ByteArray)
  | num (n : Int)
  | pair (a b : T)
def T.tm : T → Tm
  | .nil => .mk 0 0 ⟨#[]⟩ []
  | .var n => .mk 1 n ⟨#[]⟩ []
  | .sym s => .mk 2 0 s []
  | .num n => .mk 3 n ⟨#[]⟩ []
  | .pair a b => .mk 4 0 ⟨#[]⟩ [a.tm, b.tm]
def T.good : T → Prop
  | .nil => True
  | .var n => 0 ≤ n ∧ n ≤ 100000
  | .sym s => IsNm s
  | .num n => -1000000000 ≤ n ∧ n ≤ 1000000000
  | .pair a b => a.good ∧ b.good
def T.size : T → Nat
  | .pair a b => 1 + a.size + b.size
  | .nil => 1
  | .var _ => 1
  | .sym _ => 1
  | .num _ => 1
def T.vars : T → List Int
  | .var n => [n]
  | .pair a b => a.vars ++ b.vars
  | .nil => []
  | .sym _ => []
  | .num _ => []
def T.ok (x : T) : Prop := x.good ∧ x.size ≤ 5000
mutual
def Tm.cnt : Tm → Nat
  | .mk _ _ _ l => 1 + Tm.cnts l
def Tm.cnts : List Tm → Nat
  | [] => 0
  | t :: r => t.cnt + Tm.cnts r
end
def Tm.Sh (t : Tm) : Prop := ∃ x : T, x.good ∧ x.tm = t
def Tm.Ok (t : Tm) : Prop := t.Sh ∧ t.cnt ≤ 5000
theorem T.cnt_tm : ∀ x : T, x.tm.cnt = x.size
  | .nil => rfl
  | .var _ => rfl
  | .sym _ => rfl
  | .num _ => rfl
  | .pair a b => by simp [T.tm, Tm.cnt, Tm.cnts, T.size, T.cnt_tm a, T.cnt_tm b]; omega
theorem Tm.cnt_pos (t : Tm) : 1 ≤ t.cnt := by cases t; simp [Tm.cnt]
theorem Tm.Ok.lift {t : Tm} (h : t.Ok) : ∃ x : T, x.ok ∧ t = x.tm := by
  obtain ⟨⟨x, h1, rfl⟩, h2⟩ := h
  rw [T.cnt_tm] at h2
  exact ⟨x, ⟨h1, h2⟩, rfl⟩
theorem T.ok.tm {x : T} (h : x.ok) : x.tm.Ok := ⟨⟨x, h.1, rfl⟩, by rw [T.cnt_tm]; exact h.2⟩
/-- What makes a shape well-formed. -/
theorem Tm.Sh_iff (k n : Int) (s : ByteArray) (l : List Tm) : (Tm.mk k n s l).Sh ↔
    (k = 0 ∧ n = 0 ∧ s = ⟨#[]⟩ ∧ l = []) ∨ (k = 1 ∧ 0 ≤ n ∧ n ≤ 100000 ∧ s = ⟨#[]⟩ ∧ l = []) ∨ (k = 2 ∧ n = 0 ∧ IsNm s ∧ l = []) ∨ (k = 3 ∧ -1000000000 ≤ n ∧ n ≤ 1000000000 ∧ s = ⟨#[]⟩ ∧ l = []) ∨
    (k = 4 ∧ n = 0 ∧ s = ⟨#[]⟩ ∧ ∃ a b, l = [a, b] ∧ a.Sh ∧ b.Sh) := by
  constructor
  · rintro ⟨x, hx, e⟩
    cases x <;> simp only [T.tm, Tm.mk.injEq] at e <;> obtain ⟨rfl, rfl, rfl, rfl⟩ := e <;> simp only [T.good] at hx
    · simp
    · right; left; simp [hx]
    · right; right; left; simp [hx]
    · right; right; right; left; simp [hx]
    · right; right; right; right
      exact ⟨rfl, rfl, rfl, _, _, rfl, ⟨_, hx.1, rfl⟩, ⟨_, hx.2, rfl⟩⟩
  · rintro (⟨rfl, rfl, rfl, rfl⟩ | ⟨rfl, h1, h2, rfl, rfl⟩ | ⟨rfl, rfl, h1, rfl⟩ | ⟨rfl, h1, h2, rfl, rfl⟩ | ⟨rfl, rfl, rfl, a, b, rfl, ⟨x, h1, rfl⟩, ⟨y, h2, rfl⟩⟩)
    · exact ⟨.nil, trivial, rfl⟩
    · exact ⟨.var n, ⟨h1, h2⟩, rfl⟩
    · exact ⟨.sym s, h1, rfl⟩
    · exact ⟨.num n, ⟨h1, h2⟩, rfl⟩
    · exact ⟨.pair x y, ⟨h1, h2⟩, rfl⟩
theorem Tm.Sh_iff' (k n : Int) (s : ByteArray) (l : List Tm) : (Tm.mk k n s l).Sh ↔
    (k = 0 ∧ n = 0 ∧ s = ⟨#[]⟩ ∧ l.length = 0) ∨ (k = 1 ∧ 0 ≤ n ∧ n ≤ 100000 ∧ s = ⟨#[]⟩ ∧ l.length = 0) ∨ (k = 2 ∧ n = 0 ∧ IsNm s ∧ l.length = 0) ∨ (k = 3 ∧ -1000000000 ≤ n ∧ n ≤ 1000000000 ∧ s = ⟨#[]⟩ ∧ l.length = 0) ∨
    (k = 4 ∧ n = 0 ∧ s = ⟨#[]⟩ ∧ l.length = 2 ∧ ∃ a b, l = [a, b] ∧ a.Sh ∧ b.Sh) := by
  have h0 : l.length = 0 ↔ l = [] := List.length_eq_zero_iff
  have h2 : (l.length = 2 ∧ ∃ a b, l = [a, b] ∧ a.Sh ∧ b.Sh) ↔ ∃ a b, l = [a, b] ∧ a.Sh ∧ b.Sh := ⟨fun h => h.2, fun h => ⟨by obtain ⟨a, b, rfl, _⟩ := h; rfl, h⟩⟩
  rw [Tm.Sh_iff, h0, h2]
/-- A shape is ill-formed, a test says. -/
theorem isF {p : Prop} {_ : Decidable p} (h : ¬ p) : Value.bool false = .bool (decide p) := by rw [decide_eq_false h]
theorem isT {p : Prop} {_ : Decidable p} (h : p) : Value.bool true = .bool (decide p) := by rw [decide_eq_true h]
theorem isI {p q : Prop} {_ : Decidable p} {_ : Decidable q} (h : p ↔ q) : Value.bool (decide p) = .bool (decide q) := by simp only [h]
theorem two_of {α : Type} : ∀ {l : List α}, ((l.length : Nat) : Int) = 2 → ∃ a b, l = [a, b]
  | [a, b], _ => ⟨a, b, rfl⟩
  | [], h => by simp at h
  | [_], h => by simp at h
  | _ :: _ :: _ :: _, h => by simp at h; omega
theorem T.tm_inj : ∀ {x y : T}, x.tm = y.tm → x = y
  | .nil, y, h => by cases y <;> simp_all [T.tm]
  | .var n, y, h => by cases y <;> simp_all [T.tm]
  | .sym s, y, h => by cases y <;> simp_all [T.tm]
  | .num n, y, h => by cases y <;> simp_all [T.tm]
  | .pair a b, y, h => by
    cases y <;> simp [T.tm] at h
    rw [T.tm_inj h.1, T.tm_inj h.2]
theorem lift_ok : ∀ {l : List Tm}, (∀ t ∈ l, t.Ok) → ∃ xs : List T, l = xs.map T.tm ∧ ∀ x ∈ xs, x.ok
  | [], _ => ⟨[], rfl, by simp⟩
  | t :: l, h => by
    obtain ⟨x, h1, rfl⟩ := (h t (by simp)).lift
    obtain ⟨xs, rfl, h2⟩ := lift_ok (l := l) fun t ht => h t (by simp [ht])
    exact ⟨x :: xs, rfl, by simp; exact ⟨h1, h2⟩⟩
end Go.Vx

/- Contracts: which terms are well-formed. -/
namespace Go.Vx
open Go.Proofs Classical
section
variable {μ : Mem}
theorem Tm.cnts_append : ∀ (a c : List Tm), Tm.cnts (a ++ c) = Tm.cnts a + Tm.cnts c
  | [], c => by simp [Tm.cnts]
  | d :: r, c => by simp [Tm.cnts, Tm.cnts_append r c, Nat.add_assoc]
theorem Tm.cnts_take {xs : List Tm} {j : Nat} {x : Tm} (h : xs[j]? = some x) : Tm.cnts (xs.take (j + 1)) = Tm.cnts (xs.take j) + x.cnt := by
  rw [List.take_add_one, h, Option.toList_some, Tm.cnts_append]; simp [Tm.cnts]
theorem Tm.cnts_le (xs : List Tm) (j : Nat) : Tm.cnts (xs.take j) ≤ Tm.cnts xs := by
  have := Tm.cnts_append (xs.take j) (xs.drop j)
  rw [List.take_append_drop] at this; omega
/-- 'l02Count': the nodes, or just above the bound. -/
def upTo (n most : Int) : Int := min n (max most 0 + 1)
theorem l02Count_spec : ∀ (t : Tm) {v : Value} {most : Int}, RepV μ t.d v → -1000000000000 ≤ most → most ≤ 1000000000000 → Gives Tryz.prog 255 [v, .int .i64 most] μ (.int .i64 (upTo t.cnt most)) :=
  Tm.ind fun k n s l ih v most hv h1 h2 => by
    obtain ⟨base, cap, rfl, hsl⟩ := Tm.inv hv
    have hn := maxLen_le hsl.max
    refine Spec.mk Tryz.func255 (by kernel_rfl) ?_
    intro r
    refine loop_intro (fun i : Nat => i ≤ l.length) (fun i => ⟨[(1, .val (.int .i64 most)), (5, .val (.int .i64 (upTo (1 + Tm.cnts (l.take i) : Nat) most))), (9, .val (.slice base l.length cap)), (10, .val (.int .i64 l.length)), (11, .val (.int .i64 i))], [], 1, μ, Mem.nil⟩) (fun i => l.length - i)
      0 (by omega) (fun i => ⟨rfl, rfl⟩) ⟨⟨rfl, by show some (SV.val (.int .i64 _)) = some (SV.val (.int .i64 _)); congr 3; simp [Tm.cnts, upTo]; omega, rfl, rfl, rfl, trivial⟩, trivial, rfl, rfl⟩ ?_
    intro i hi
    refine ifd (fun h => ?_) (fun h => ?_)
    · obtain ⟨t, ht⟩ := at_some (l := l) (i := i) (by omega)
      have hc := Tm.cnts_take ht
      have hc' := Tm.cnts_le l (i + 1)
      obtain ⟨ad, p, hel, hr⟩ := Tm.elem hsl ht
      refine elem_intro hel ?_
      intro r2
      refine ifd (fun h => ret_gives ?_ rfl) (fun h => ?_)
      · simp only [Tm.cnt, upTo] at h ⊢
        congr 1; omega
      · have hb : upTo (1 + Tm.cnts (l.take i) : Nat) most ≤ 1000000000001 ∧ 1 ≤ upTo (1 + Tm.cnts (l.take i) : Nat) most := by unfold upTo; omega
        refine num64 (by omega) (by omega) ?_
        refine call_gives (ih t (mem_at ht) hr (by omega) (by omega)) ?_
        refine num_eq (x := upTo (1 + Tm.cnts (l.take (i + 1)) : Nat) most) ?_ ?_
        · have hb2 : upTo (t.cnt : Int) (most - upTo (1 + Tm.cnts (l.take i) : Nat) most) ≤ 1000000000001 ∧ 1 ≤ upTo (t.cnt : Int) (most - upTo (1 + Tm.cnts (l.take i) : Nat) most) := by
            have := t.cnt_pos
            unfold upTo at hb h ⊢
            omega
          rw [wrap64 (by omega) (by omega), hc]
          unfold upTo at h ⊢; omega
        · exact num64 (by omega) (by omega) ⟨i + 1, by omega, by omega, ⟨⟨rfl, rfl, rfl, rfl, rfl, trivial⟩, trivial, rfl, rfl⟩⟩
    · obtain rfl : i = l.length := by omega
      rw [List.take_length]
      exact ret_gives rfl rfl
set_option maxRecDepth 20000 in
theorem l02Shape_spec : ∀ (t : Tm) {v : Value}, RepV μ t.d v → t.d.wd → Gives Tryz.prog 256 [v] μ (.bool (decide t.Sh)) :=
  Tm.ind fun k n s l ih v hv hw => by
    obtain ⟨base, cap, rfl, hsl⟩ := Tm.inv hv
    have hn := maxLen_le hsl.max
    rw [Tm.d_mk] at hw
    have hs : s.size ≤ maxLen := hw.2.2.1
    have hws := D.wds_mem (xs := l.map Tm.d) hw.2.2.2.1
    have hiff := Tm.Sh_iff' k n s l
    refine Spec.mk Tryz.func256 (by kernel_rfl) ?_
    intro r
    repeat' (first
      | refine ifd (fun h => ?_) (fun h => ?_)
      | refine ifnd (fun h => ?_) (fun h => ?_)
      | refine if_intro (fun h => ?_) (fun h => ?_))
    all_goals first
      | (exfalso; clear ih hsl hv hw hws hiff; first | omega | contradiction)
      | (refine ret_gives (isF fun hS => ?_) rfl; clear ih hsl hv hw hws; rcases hiff.1 hS with ⟨e1, e2, e3, e4⟩ | ⟨e1, e2, e3, e4, e5⟩ | ⟨e1, e2, e3, e4⟩ | ⟨e1, e2, e3, e4, e5⟩ | ⟨e1, e2, e3, e4, e5⟩ <;> first | omega | contradiction | (subst_vars; contradiction))
      | (refine ret_gives (isT (hiff.2 (.inl ⟨?_, ?_, ?_, ?_⟩))) rfl <;> first | omega | assumption)
      | (refine call_gives (l01In_spec _ _ _ _) (ret_gives (isI (p := (0 : Int) ≤ n ∧ n ≤ 100000) (hiff.trans ⟨fun hh => ?_, fun hh => .inr (.inl ⟨by omega, hh.1, hh.2, by assumption, by omega⟩)⟩).symm) rfl); rcases hh with ⟨e1, e2, e3, e4⟩ | ⟨e1, e2, e3, e4, e5⟩ | ⟨e1, e2, e3, e4⟩ | ⟨e1, e2, e3, e4, e5⟩ | ⟨e1, e2, e3, e4, e5⟩ <;> first | omega | exact ⟨by omega, by omega⟩)
      | (refine call_gives (l01In_spec _ _ _ _) (ret_gives (isI (p := (-1000000000 : Int) ≤ n ∧ n ≤ 1000000000) (hiff.trans ⟨fun hh => ?_, fun hh => .inr (.inr (.inr (.inl ⟨by omega, hh.1, hh.2, by assumption, by omega⟩)))⟩).symm) rfl); rcases hh with ⟨e1, e2, e3, e4⟩ | ⟨e1, e2, e3, e4, e5⟩ | ⟨e1, e2, e3, e4⟩ | ⟨e1, e2, e3, e4, e5⟩ | ⟨e1, e2, e3, e4, e5⟩ <;> first | omega | exact ⟨by omega, by omega⟩)
      | (refine call_gives (spec_IsName_spec s hs _) (ret_gives (isI (p := IsNm s) (hiff.trans ⟨fun hh => ?_, fun hh => .inr (.inr (.inl ⟨by omega, by omega, hh, by omega⟩))⟩).symm) rfl); rcases hh with ⟨e1, e2, e3, e4⟩ | ⟨e1, e2, e3, e4, e5⟩ | ⟨e1, e2, e3, e4⟩ | ⟨e1, e2, e3, e4, e5⟩ | ⟨e1, e2, e3, e4, e5⟩ <;> first | omega | assumption)
      | skip
    have h2 := h
    obtain ⟨a, b, rfl⟩ := two_of h2
    obtain ⟨ad, p, hel, hra⟩ := Tm.elem (i := 0) hsl rfl
    obtain ⟨ad', p', hel', hrb⟩ := Tm.elem (i := 1) hsl rfl
    refine elem_intro hel (call_gives (ih a (by simp) hra (hws _ (by simp))) ?_)
    refine if_intro (fun h => ?_) (fun h => ?_)
    · refine elem_intro hel' (call_gives (ih b (by simp) hrb (hws _ (by simp))) (ret_gives (isI (hiff.trans ⟨fun hh => ?_, fun hh => ?_⟩).symm) rfl))
      · rcases hh with ⟨e1, e2, e3, e4⟩ | ⟨e1, e2, e3, e4, e5⟩ | ⟨e1, e2, e3, e4⟩ | ⟨e1, e2, e3, e4, e5⟩ | ⟨e1, e2, e3, e4, e5⟩ <;> first | omega | (obtain ⟨a', b', e, e6, e7⟩ := e5; cases e; assumption)
      · exact .inr (.inr (.inr (.inr ⟨by omega, by omega, by assumption, rfl, a, b, rfl, of_decide_eq_true h, hh⟩)))
    · refine ret_gives (isF fun hh => ?_) rfl
      replace hh := hiff.1 hh
      rcases hh with ⟨e1, e2, e3, e4⟩ | ⟨e1, e2, e3, e4, e5⟩ | ⟨e1, e2, e3, e4⟩ | ⟨e1, e2, e3, e4, e5⟩ | ⟨e1, e2, e3, e4, e5⟩ <;> first | omega | (obtain ⟨a', b', e, e6, e7⟩ := e5; cases e; exact absurd e6 (of_decide_eq_false h))
/-- 'nodesOf': the nodes of a well-formed term that fits; else -1. -/
noncomputable def Tm.nodes (t : Tm) (room : Int) : Int := if t.Sh ∧ (t.cnt : Int) ≤ room then t.cnt else -1
theorem Tm.nodes_neg {t : Tm} {room : Int} (h : ¬ (t.Sh ∧ (t.cnt : Int) ≤ room)) : Value.int .i64 (-1) = .int .i64 (t.nodes room) := by rw [Tm.nodes, if_neg h]
theorem Tm.nodes_pos {t : Tm} {room : Int} (h : t.Sh) (h2 : (t.cnt : Int) ≤ room) : t.nodes room = t.cnt := by rw [Tm.nodes, if_pos ⟨h, h2⟩]
theorem Tm.nodes_lt {t : Tm} {room : Int} (h : t.nodes room < 0) : ¬ (t.Sh ∧ (t.cnt : Int) ≤ room) := fun k => by rw [Tm.nodes, if_pos k] at h; omega
theorem Tm.nodes_ge {t : Tm} {room : Int} (h : ¬ t.nodes room < 0) : t.Sh ∧ (t.cnt : Int) ≤ room ∧ t.nodes room = t.cnt := by
  by_cases k : t.Sh ∧ (t.cnt : Int) ≤ room
  · exact ⟨k.1, k.2, by rw [Tm.nodes, if_pos k]⟩
  · rw [Tm.nodes, if_neg k] at h; omega
set_option maxRecDepth 20000 in
theorem nodesOf_spec : ∀ (t : Tm) {v : Value} {room : Int}, RepV μ t.d v → -1000000000000 ≤ room → room ≤ 1000000000000 → Gives Tryz.prog 178 [v, .int .i64 room] μ (.int .i64 (t.nodes room)) :=
  Tm.ind fun k n s l ih v room hv hr1 hr2 => by
    obtain ⟨base, cap, rfl, hsl⟩ := Tm.inv hv
    have hn := maxLen_le hsl.max
    have hiff := Tm.Sh_iff' k n s l
    have hone : l.length = 0 → (Tm.mk k n s l).cnt = 1 := fun h => by
      obtain rfl := List.eq_nil_of_length_eq_zero h
      rfl
    have hpos := Tm.cnt_pos (.mk k n s l)
    refine Spec.mk Tryz.func178 (by kernel_rfl) ?_
    intro r
    refine ifd (fun h0 => ret_gives (Tm.nodes_neg fun hh => by omega) rfl) (fun h0 => ?_)
    have hgood : (Tm.mk k n s l).Sh → l.length = 0 → Value.int .i64 1 = .int .i64 ((Tm.mk k n s l).nodes room) := fun h1 h2 => by
      have := hone h2
      rw [Tm.nodes_pos h1 (by omega), this]; rfl
    refine ifnd (fun hk => ?_) (fun hk => ?_)
    · repeat' (first
        | refine ifd (fun h => ?_) (fun h => ?_)
        | refine ifnd (fun h => ?_) (fun h => ?_)
        | refine if_intro (fun h => ?_) (fun h => ?_)
        | refine call_gives (impl_IsName_spec s _) ?_)
      all_goals first
        | (exfalso; clear ih hsl hv hiff; first | omega | contradiction)
        | (refine ret_gives (Tm.nodes_neg fun hS => ?_) rfl; have hh := hiff.1 hS.1; clear ih hsl hv; rcases hh with ⟨e1, e2, e3, e4⟩ | ⟨e1, e2, e3, e4, e5⟩ | ⟨e1, e2, e3, e4⟩ | ⟨e1, e2, e3, e4, e5⟩ | ⟨e1, e2, e3, e4, e5⟩ <;> first | omega | contradiction | (subst_vars; contradiction))
        | (refine ret_gives (hgood (hiff.2 (.inl ⟨?_, ?_, ?_, ?_⟩)) (by omega)) rfl <;> first | omega | assumption; done)
        | (refine ret_gives (hgood (hiff.2 (.inr (.inl ⟨?_, ?_, ?_, ?_, ?_⟩))) (by omega)) rfl <;> first | omega | assumption; done)
        | (refine ret_gives (hgood (hiff.2 (.inr (.inr (.inl ⟨?_, ?_, ?_, ?_⟩)))) (by omega)) rfl <;> first | omega | assumption; done)
        | (refine ret_gives (hgood (hiff.2 (.inr (.inr (.inr (.inl ⟨?_, ?_, ?_, ?_, ?_⟩))))) (by omega)) rfl <;> first | omega | assumption; done)
        | trace_state
    · refine ifnd (fun h1 => ?_) (fun h1 => ?_)
      · refine ret_gives (Tm.nodes_neg fun hS => ?_) rfl; have hh := hiff.1 hS.1; clear ih hsl hv
        rcases hh with ⟨e1, e2, e3, e4⟩ | ⟨e1, e2, e3, e4, e5⟩ | ⟨e1, e2, e3, e4⟩ | ⟨e1, e2, e3, e4, e5⟩ | ⟨e1, e2, e3, e4, e5⟩ <;> omega
      refine ifnd (fun h2 => ?_) (fun h2 => ?_)
      · refine ret_gives (Tm.nodes_neg fun hS => ?_) rfl; have hh := hiff.1 hS.1; clear ih hsl hv
        rcases hh with ⟨e1, e2, e3, e4⟩ | ⟨e1, e2, e3, e4, e5⟩ | ⟨e1, e2, e3, e4⟩ | ⟨e1, e2, e3, e4, e5⟩ | ⟨e1, e2, e3, e4, e5⟩ <;> first | omega | contradiction
      refine ifnd (fun h3 => ?_) (fun h3 => ?_)
      · refine ret_gives (Tm.nodes_neg fun hS => ?_) rfl; have hh := hiff.1 hS.1; clear ih hsl hv
        rcases hh with ⟨e1, e2, e3, e4⟩ | ⟨e1, e2, e3, e4, e5⟩ | ⟨e1, e2, e3, e4⟩ | ⟨e1, e2, e3, e4, e5⟩ | ⟨e1, e2, e3, e4, e5⟩ <;> omega
      obtain ⟨a, b, rfl⟩ := two_of h3
      have hcnt : (Tm.mk k n s [a, b]).cnt = 1 + a.cnt + b.cnt := by simp [Tm.cnt, Tm.cnts]; omega
      have hsh : (Tm.mk k n s [a, b]).Sh → a.Sh ∧ b.Sh := fun hS => by
        have hh := hiff.1 hS
        rcases hh with ⟨e1, e2, e3, e4⟩ | ⟨e1, e2, e3, e4, e5⟩ | ⟨e1, e2, e3, e4⟩ | ⟨e1, e2, e3, e4, e5⟩ | ⟨e1, e2, e3, e4, e5⟩ <;> first | omega | (obtain ⟨a', b', e, e6, e7⟩ := e5; cases e; exact ⟨e6, e7⟩)
      obtain ⟨ad, p, hel, hra⟩ := Tm.elem (i := 0) hsl rfl
      obtain ⟨ad', p', hel', hrb⟩ := Tm.elem (i := 1) hsl rfl
      refine elem_intro hel (num64 (by omega) (by omega) (call_gives (ih a (by simp) hra (by omega) (by omega)) ?_))
      refine ifd (fun h4 => ?_) (fun h4 => ?_)
      · have := Tm.nodes_lt h4
        refine ret_gives (Tm.nodes_neg fun hS => this ⟨(hsh hS.1).1, ?_⟩) rfl
        have := hS.2; rw [hcnt] at this; omega
      obtain ⟨g1, g2, g3⟩ := Tm.nodes_ge h4
      have := a.cnt_pos
      refine elem_intro hel' (num64 (by omega) (by omega) (num64 (by omega) (by omega) (call_gives (ih b (by simp) hrb (by omega) (by omega)) ?_)))
      refine ifd (fun h5 => ?_) (fun h5 => ?_)
      · have := Tm.nodes_lt h5
        refine ret_gives (Tm.nodes_neg fun hS => this ⟨(hsh hS.1).2, ?_⟩) rfl
        have := hS.2; rw [hcnt] at this; omega
      obtain ⟨g4, g5, g6⟩ := Tm.nodes_ge h5
      refine num64 (by omega) (by omega) (num64 (by omega) (by omega) (ret_gives ?_ rfl))
      rw [Tm.nodes_pos (hiff.2 (.inr (.inr (.inr (.inr ⟨by omega, by omega, by assumption, rfl, a, b, rfl, g1, g4⟩))))) (by rw [hcnt]; omega), hcnt]
      congr 1; omega
end
end Go.Vx

/- Contracts: well-formed terms, lists of them; ground terms. -/
namespace Go.Vx
open Go.Proofs Classical
section
variable {μ : Mem}
theorem spec_TermOk_spec (t : Tm) {v : Value} (hv : RepV μ t.d v) (hw : t.d.wd) : Gives Tryz.prog 174 [v] μ (.bool (decide t.Ok)) := by
  obtain ⟨p, rfl⟩ := Tm.invV hv
  refine Spec.mk Tryz.func174 (by kernel_rfl) ?_
  intro r
  refine call_gives (l02Count_spec t hv (by decide) (by decide)) ?_
  refine ifd (fun h => ?_) (fun h => ret_gives (isF fun hh => ?_) rfl)
  · refine call_gives (l02Shape_spec t hv hw) (ret_gives (isI ⟨fun hh => ⟨hh, ?_⟩, fun hh => hh.1⟩) rfl)
    unfold upTo at h; omega
  · have := hh.2; unfold upTo at h; omega
theorem impl_TermOk_spec (t : Tm) {v : Value} (hv : RepV μ t.d v) : Gives Tryz.prog 89 [v] μ (.bool (decide t.Ok)) := by
  obtain ⟨p, rfl⟩ := Tm.invV hv
  refine Spec.mk Tryz.func89 (by kernel_rfl) ?_
  intro r
  refine call_gives (nodesOf_spec t hv (by decide) (by decide)) (ret_gives (isI ⟨fun hh => ?_, fun hh => ?_⟩) rfl)
  · obtain ⟨h1, h2, _⟩ := Tm.nodes_ge (by omega : ¬ t.nodes 5000 < 0)
    exact ⟨h1, by omega⟩
  · rw [Tm.nodes_pos hh.1 (by have := hh.2; omega)]
    have := t.cnt_pos; omega
end
end Go.Vx

/- Contracts: the variables of a term, visited in order; ground terms. -/
namespace Go.Vx
open Go.Proofs Classical
theorem box_at {μ : Mem} {r : Nat} {x : Value} {ty : TypeId} (h : μ r = some (.cells #[x] ty (0, 0))) : ∀ j v, [x][j]? = some v → μ.cell ((⟨r, 0, none⟩ : Addr).add j) = some v := fun j v hj => by
  match j, hj with
  | 0, hj => cases hj; simp [Mem.cell, Addr.add_lit', h]
section
variable {μ : Mem}
/-- The parts of a pair. -/
theorem T.parts {a b : T} {base : Option Addr} {n : Nat} (h : Sl μ 4 base n ([a.tm, b.tm].map Tm.d)) : ∃ ad ad', ∃ p p' : Option Addr × Nat, ElemAt μ base n 4 ((0 : Nat) : Int) ad (a.tm.cs p) ∧ ElemAt μ base n 4 ((1 : Nat) : Int) ad' (b.tm.cs p') ∧ RepV μ a.tm.d (.agg (a.tm.cs p).toArray) ∧ RepV μ b.tm.d (.agg (b.tm.cs p').toArray) := by
  obtain ⟨ad, p, h1, h2⟩ := Tm.elem (i := 0) h rfl
  obtain ⟨ad', p', h3, h4⟩ := Tm.elem (i := 1) h rfl
  exact ⟨ad, ad', p, p', h1, h3, h2, h4⟩
theorem eachVar_spec {S : Type} (hp : S → Mem) (step : S → Int → S) {k : FuncId} {caps : List Value} {Q : Int → Prop}
    (hc : ∀ s n, Q n → SpecH Tryz.prog k (.int .i64 n :: caps) μ (hp s) fun r μ' h' => r = .tuple #[] ∧ μ' = μ ∧ h' = hp (step s n)) :
    ∀ (x : T) {v : Value} (s : S), RepV μ x.tm.d v → (∀ n ∈ x.vars, Q n) → SpecH Tryz.prog 93 [v, .func (.func k) #[] caps.toArray] μ (hp s) fun r μ' h' => r = .tuple #[] ∧ μ' = μ ∧ h' = hp (x.vars.foldl step s)
  | .var n, v, s, hv, hq => by
    obtain ⟨base, cap, rfl, hsl⟩ := Tm.inv hv
    refine SpecH.mk [] Tryz.func93 (by kernel_rfl) ?_
    intro r
    refine ifd (fun _ => ?_) (fun h => absurd rfl h)
    refine call_own (hc s n (hq n (by simp [T.vars]))) fun v μ' h' hle hap hR => ?_
    obtain ⟨rfl, rfl, rfl⟩ := hR
    refine ifd (fun h => absurd h (by decide)) (fun _ => ?_)
    exact ret_plain ⟨rfl, rfl, rfl⟩
  | .nil, v, s, hv, hq => by
    obtain ⟨base, cap, rfl, hsl⟩ := Tm.inv hv
    refine SpecH.mk [] Tryz.func93 (by kernel_rfl) ?_
    intro r
    refine ifd (fun h => absurd h (by decide)) (fun _ => ?_)
    refine ifd (fun h => absurd h (by decide)) (fun _ => ?_)
    exact ret_plain ⟨rfl, rfl, rfl⟩
  | .sym _, v, s, hv, hq => by
    obtain ⟨base, cap, rfl, hsl⟩ := Tm.inv hv
    refine SpecH.mk [] Tryz.func93 (by kernel_rfl) ?_
    intro r
    refine ifd (fun h => absurd h (by decide)) (fun _ => ?_)
    refine ifd (fun h => absurd h (by decide)) (fun _ => ?_)
    exact ret_plain ⟨rfl, rfl, rfl⟩
  | .num _, v, s, hv, hq => by
    obtain ⟨base, cap, rfl, hsl⟩ := Tm.inv hv
    refine SpecH.mk [] Tryz.func93 (by kernel_rfl) ?_
    intro r
    refine ifd (fun h => absurd h (by decide)) (fun _ => ?_)
    refine ifd (fun h => absurd h (by decide)) (fun _ => ?_)
    exact ret_plain ⟨rfl, rfl, rfl⟩
  | .pair a b, v, s, hv, hq => by
    obtain ⟨base, cap, rfl, hsl⟩ := Tm.inv hv
    obtain ⟨ad, ad', p, p', h1, h2, hra, hrb⟩ := T.parts hsl
    refine SpecH.mk [] Tryz.func93 (by kernel_rfl) ?_
    intro r
    refine ifd (fun h => absurd h (by decide)) (fun _ => ?_)
    refine ifd (fun _ => ?_) (fun h => absurd rfl h)
    refine elem_intro h1 (call_own (eachVar_spec hp step hc a s hra fun n hn => hq n (by simp [T.vars, hn])) fun v μ' h' hle hap hR => ?_)
    obtain ⟨rfl, e2, rfl⟩ := hR
    obtain rfl := e2.symm
    refine elem_intro h2 (call_own (eachVar_spec hp step hc b _ hrb fun n hn => hq n (by simp [T.vars, hn])) fun v μ' h' hle hap hR => ?_)
    obtain ⟨rfl, e2, rfl⟩ := hR
    obtain rfl := e2.symm
    exact ret_plain ⟨rfl, rfl, by simp [T.vars]⟩
theorem set_self (h : Mem) (r : Nat) (o : Obj) : h.set r o r = some o := by simp [Mem.set_get]
end
end Go.Vx

/- Contracts: sets of numbers; the variables of a term as the reference lists them. -/
namespace Go.Vx
open Go.Proofs Classical
def ints (l : List Int) : List Value := l.map fun n => .int .i64 n
theorem ints_flat : ∀ l : List Int, (ints l).flatMap vcells = ints l
  | [] => rfl
  | n :: l => by
    have := ints_flat l
    simp only [ints] at this ⊢
    simp [this, vcells]
section
variable {μ : Mem}
theorem Ints.elem {l : List Int} {base : Option Addr} {n : Nat} (h : Sl μ 1 base n (l.map D.i)) {i : Nat} {x : Int} (hx : l[i]? = some x) : ∃ ad, ElemAt μ base n 1 i ad [.int .i64 x] := by
  obtain ⟨ad, cs, h1, h2⟩ := h.get i (.i x) (by simp [hx])
  have h2 : cs = [.int .i64 x] := h2
  subst h2
  exact ⟨ad, h1⟩
theorem Ints.rows : ∀ l : List Int, Rows μ 1 (l.map D.i) (ints l)
  | [] => .nil
  | n :: l => .cons (show RepV μ (.i n) (.int .i64 n) from rfl) rfl (Ints.rows l)
theorem Ints.sl {b : Option Nat} {cap : Nat} {l : List Int} (h : RowAt μ b cap 1 (ints l)) (hm : l.length ≤ maxLen) : RepV μ (.sl 1 (l.map D.i)) (.slice (b.map fun r => ⟨r, 0, none⟩) (ints l).length cap) :=
  Rows.sl h (Ints.rows l) (by simpa [ints] using hm)
theorem Ints.src {l : List Int} {base : Option Addr} (h : Sl μ 1 base l.length (l.map D.i)) {a b cap : Nat} (hab : a ≤ b) (hb : b ≤ l.length) (hc : l.length ≤ cap) : SrcAt μ (if cap = a then base else base.map (·.add (a * 1))) (b - a) 1 (ints ((l.drop a).take (b - a))) := by
  refine ⟨by simp [ints]; omega, fun y hy => ?_, ?_⟩
  · obtain ⟨n, _, rfl⟩ := List.mem_map.1 hy
    exact ⟨rfl, fun u hu => by simp [vcells] at hu; subst hu; rfl⟩
  · rcases Nat.eq_or_lt_of_le hab with h0 | h0
    · exact .inl (by omega)
    · right
      obtain ⟨x, hx⟩ := at_some (l := l) (i := a) (by omega)
      obtain ⟨_, hel⟩ := Ints.elem h hx
      obtain ⟨a0, e, _⟩ := hel.addr
      refine ⟨a0.add (a * 1), by rw [if_neg (by omega), e]; rfl, fun j v hj => ?_⟩
      rw [ints_flat] at hj
      simp only [ints, List.getElem?_map] at hj
      obtain ⟨y, hy, rfl⟩ := Option.map_eq_some_iff.1 hj
      rw [List.getElem?_take] at hy
      split at hy
      · rw [List.getElem?_drop] at hy
        obtain ⟨ad, hel2⟩ := Ints.elem h hy
        obtain ⟨a1, e1, e2⟩ := hel2.addr
        rw [e] at e1
        cases e1
        have := hel2.cell 0 _ rfl
        rw [e2, add_add] at this
        rw [add_add]
        rw [← this]
        congr 2
        simp
        omega
      · cases hy
def insInt (l : List Int) (n : Int) (k : Nat) : List Int := l.take k ++ ([n] ++ l.drop k)
theorem insInt_mem (l : List Int) (n : Int) (k : Nat) (x : Int) : x ∈ insInt l n k ↔ x = n ∨ x ∈ l := by
  have := List.take_append_drop k l
  have h2 : x ∈ l ↔ x ∈ l.take k ∨ x ∈ l.drop k := by rw [← List.mem_append, this]
  simp only [insInt, List.mem_append, List.mem_singleton, h2]
  constructor
  · rintro (h | h | h) <;> simp [h]
  · rintro (h | h | h) <;> simp [h]
/-- A list of numbers, out of an insertion. -/
def InsOf (μ' : Mem) (l : List Int) (n : Int) (v : Value) : Prop := ∃ r : List Int, RepV μ' (.sl 1 (r.map D.i)) v ∧ (∀ x, x ∈ r ↔ x = n ∨ x ∈ l) ∧ r.length ≤ l.length + 1
theorem l02Insert_spec {l : List Int} {v : Value} {n : Int} (hv : RepV μ (.sl 1 (l.map D.i)) v) (hb : l.length ≤ 1000000000) : Spec Tryz.prog 252 [v, .int .i64 n] μ fun v μ' => InsOf μ' l n v := by
  obtain ⟨base, cap, rfl, hsl⟩ := Rep.sl hv
  have hcap := Rep.lens hv
  rw [List.length_map] at hsl hcap hv ⊢
  refine Spec.mk Tryz.func252 (by kernel_rfl) ?_
  refine loop_intro (fun k : Nat => k ≤ l.length) (fun k => ⟨[(0, .val (.slice base l.length cap)), (1, .val (.int .i64 n)), (5, .val (.int .i64 k))], [], 0, μ, Mem.nil⟩) (fun k => k)
    l.length (Nat.le_refl _) (fun i => ⟨rfl, rfl⟩) ⟨⟨rfl, rfl, rfl, trivial⟩, trivial, rfl, rfl⟩ ?_
  intro k hk
  refine ifd (fun h1 => ?_) (fun h1 => ?_)
  · obtain ⟨x, hx⟩ := at_some (l := l) (i := k - 1) (by omega)
    obtain ⟨ad, hel⟩ := Ints.elem hsl hx
    refine num_eq (x := ((k - 1 : Nat) : Int)) (by rw [wrap64 (by omega) (by omega)]; omega) ?_
    refine elem_intro hel ?_
    refine ifd (fun h2 => ?_) (fun h2 => ?_)
    · exact num_eq (x := ((k - 1 : Nat) : Int)) (by rw [wrap64 (by omega) (by omega)]; omega) ⟨k - 1, by omega, by omega, ⟨⟨rfl, rfl, rfl, trivial⟩, trivial, rfl, rfl⟩⟩
    · refine ifd (fun h3 => ?_) (fun h3 => ?_)
      · obtain ⟨y, hy⟩ := at_some (l := l) (i := k) (by omega)
        obtain ⟨ad2, hel2⟩ := Ints.elem hsl hy
        refine elem_intro hel2 ?_
        refine ifd (fun h4 => ret_plain ⟨l, hv, fun x => ⟨.inr, fun hx => hx.elim (fun e => by rw [e, ← h4]; exact mem_at hy) id⟩, by omega⟩) (fun h4 => ?_)
        intro r0
        refine cut_intro 0 k rfl rfl (by omega) (by omega) ?_
        refine src_intro _ (Ints.src hsl (a := 0) (b := k) (by omega) hk hcap) ?_
        refine grow_intro ?_ ?_ fun b1 c1 _ => ?_
        · show (0 + (ints _).length) * 8 ≤ _; simp [ints]; omega
        · show 0 + (ints _).length ≤ 9223372036854775807; simp [ints]; omega
        intro r1
        refine grow_intro ?_ ?_ fun b2 c2 _ => ?_
        · show (([] ++ ints _).length + 1) * 8 ≤ _; simp [ints]; omega
        · show ([] ++ ints _).length + 1 ≤ 9223372036854775807; simp [ints]; omega
        refine cut_intro k l.length rfl rfl hk (by omega) ?_
        refine src_intro _ (Ints.src hsl (a := k) (b := l.length) hk (Nat.le_refl _) hcap) ?_
        refine grow_intro ?_ ?_ fun b3 c3 _ => ?_
        · show (([] ++ ints _ ++ [_]).length + (ints _).length) * 8 ≤ _; simp [ints]; omega
        · show ([] ++ ints _ ++ [_]).length + (ints _).length ≤ 9223372036854775807; simp [ints]; omega
        refine ret_frz [0] fun μ' hle hno hrow => .inl ⟨insInt l n k, ?_, insInt_mem l n k, ?_⟩
        · have e : [] ++ ints ((l.drop 0).take (k - 0)) ++ [.int .i64 n] ++ ints ((l.drop k).take (l.length - k)) = ints (insInt l n k) := by
            simp [ints, insInt]
            rw [List.take_of_length_le (by simp)]
          rw [e] at hrow ⊢
          exact Ints.sl hrow (Nat.le_trans (m := 2000000000) (by simp [insInt]; omega) (by decide))
        · simp [insInt]; omega
      · intro r0
        refine cut_intro 0 k rfl rfl (by omega) (by omega) ?_
        refine src_intro _ (Ints.src hsl (a := 0) (b := k) (by omega) hk hcap) ?_
        refine grow_intro ?_ ?_ fun b1 c1 _ => ?_
        · show (0 + (ints _).length) * 8 ≤ _; simp [ints]; omega
        · show 0 + (ints _).length ≤ 9223372036854775807; simp [ints]; omega
        intro r1
        refine grow_intro ?_ ?_ fun b2 c2 _ => ?_
        · show (([] ++ ints _).length + 1) * 8 ≤ _; simp [ints]; omega
        · show ([] ++ ints _).length + 1 ≤ 9223372036854775807; simp [ints]; omega
        refine cut_intro k l.length rfl rfl hk (by omega) ?_
        refine src_intro _ (Ints.src hsl (a := k) (b := l.length) hk (Nat.le_refl _) hcap) ?_
        refine grow_intro ?_ ?_ fun b3 c3 _ => ?_
        · show (([] ++ ints _ ++ [_]).length + (ints _).length) * 8 ≤ _; simp [ints]; omega
        · show ([] ++ ints _ ++ [_]).length + (ints _).length ≤ 9223372036854775807; simp [ints]; omega
        refine ret_frz [0] fun μ' hle hno hrow => .inl ⟨insInt l n k, ?_, insInt_mem l n k, ?_⟩
        · have e : [] ++ ints ((l.drop 0).take (k - 0)) ++ [.int .i64 n] ++ ints ((l.drop k).take (l.length - k)) = ints (insInt l n k) := by
            simp [ints, insInt]
            rw [List.take_of_length_le (by simp)]
          rw [e] at hrow ⊢
          exact Ints.sl hrow (Nat.le_trans (m := 2000000000) (by simp [insInt]; omega) (by decide))
        · simp [insInt]; omega
  · refine ifd (fun h3 => ?_) (fun h3 => ?_)
    · obtain ⟨y, hy⟩ := at_some (l := l) (i := k) (by omega)
      obtain ⟨ad2, hel2⟩ := Ints.elem hsl hy
      refine elem_intro hel2 ?_
      refine ifd (fun h4 => ret_plain ⟨l, hv, fun x => ⟨.inr, fun hx => hx.elim (fun e => by rw [e, ← h4]; exact mem_at hy) id⟩, by omega⟩) (fun h4 => ?_)
      intro r0
      refine cut_intro 0 k rfl rfl (by omega) (by omega) ?_
      refine src_intro _ (Ints.src hsl (a := 0) (b := k) (by omega) hk hcap) ?_
      refine grow_intro ?_ ?_ fun b1 c1 _ => ?_
      · show (0 + (ints _).length) * 8 ≤ _; simp [ints]; omega
      · show 0 + (ints _).length ≤ 9223372036854775807; simp [ints]; omega
      intro r1
      refine grow_intro ?_ ?_ fun b2 c2 _ => ?_
      · show (([] ++ ints _).length + 1) * 8 ≤ _; simp [ints]; omega
      · show ([] ++ ints _).length + 1 ≤ 9223372036854775807; simp [ints]; omega
      refine cut_intro k l.length rfl rfl hk (by omega) ?_
      refine src_intro _ (Ints.src hsl (a := k) (b := l.length) hk (Nat.le_refl _) hcap) ?_
      refine grow_intro ?_ ?_ fun b3 c3 _ => ?_
      · show (([] ++ ints _ ++ [_]).length + (ints _).length) * 8 ≤ _; simp [ints]; omega
      · show ([] ++ ints _ ++ [_]).length + (ints _).length ≤ 9223372036854775807; simp [ints]; omega
      refine ret_frz [0] fun μ' hle hno hrow => .inl ⟨insInt l n k, ?_, insInt_mem l n k, ?_⟩
      · have e : [] ++ ints ((l.drop 0).take (k - 0)) ++ [.int .i64 n] ++ ints ((l.drop k).take (l.length - k)) = ints (insInt l n k) := by
          simp [ints, insInt]
          rw [List.take_of_length_le (by simp)]
        rw [e] at hrow ⊢
        exact Ints.sl hrow (Nat.le_trans (m := 2000000000) (by simp [insInt]; omega) (by decide))
      · simp [insInt]; omega
    · intro r0
      refine cut_intro 0 k rfl rfl (by omega) (by omega) ?_
      refine src_intro _ (Ints.src hsl (a := 0) (b := k) (by omega) hk hcap) ?_
      refine grow_intro ?_ ?_ fun b1 c1 _ => ?_
      · show (0 + (ints _).length) * 8 ≤ _; simp [ints]; omega
      · show 0 + (ints _).length ≤ 9223372036854775807; simp [ints]; omega
      intro r1
      refine grow_intro ?_ ?_ fun b2 c2 _ => ?_
      · show (([] ++ ints _).length + 1) * 8 ≤ _; simp [ints]; omega
      · show ([] ++ ints _).length + 1 ≤ 9223372036854775807; simp [ints]; omega
      refine cut_intro k l.length rfl rfl hk (by omega) ?_
      refine src_intro _ (Ints.src hsl (a := k) (b := l.length) hk (Nat.le_refl _) hcap) ?_
      refine grow_intro ?_ ?_ fun b3 c3 _ => ?_
      · show (([] ++ ints _ ++ [_]).length + (ints _).length) * 8 ≤ _; simp [ints]; omega
      · show ([] ++ ints _ ++ [_]).length + (ints _).length ≤ 9223372036854775807; simp [ints]; omega
      refine ret_frz [0] fun μ' hle hno hrow => .inl ⟨insInt l n k, ?_, insInt_mem l n k, ?_⟩
      · have e : [] ++ ints ((l.drop 0).take (k - 0)) ++ [.int .i64 n] ++ ints ((l.drop k).take (l.length - k)) = ints (insInt l n k) := by
          simp [ints, insInt]
          rw [List.take_of_length_le (by simp)]
        rw [e] at hrow ⊢
        exact Ints.sl hrow (Nat.le_trans (m := 2000000000) (by simp [insInt]; omega) (by decide))
      · simp [insInt]; omega
theorem flatMap_take_le {α β : Type} (f : α → List β) (l : List α) (i : Nat) : ((l.take i).flatMap f).length ≤ (l.flatMap f).length := by
  have := congrArg (fun l => (l.flatMap f).length) (List.take_append_drop i l)
  simp only [List.flatMap_append, List.length_append] at this
  omega
/-- What a call has made may be forgotten. -/
theorem Spec.forget {P : Program} {f : FuncId} {args : List Value} {R : Value → Prop} (h : Spec P f args μ fun v _ => R v) : Spec P f args μ fun v μ' => R v ∧ μ' = μ := by
  refine ⟨h.1, fun w hm hh hap => (h.2 w hm hh hap).mono ?_⟩
  rintro e w' ⟨v, μ', h', rfl, hr, hS⟩
  exact ⟨v, μ, Mem.nil, rfl, ⟨hr, rfl⟩, ⟨Mem.Le.refl μ, hS.mem.le hS.le, holds_nil w', apart_nil _, fun b h1 h2 => absurd h1 h2, fun b hb => absurd rfl hb, hS.size, hS.keep, hS.os, hS.tape, hS.output⟩⟩
/-- The parts of a term. -/
def T.args : T → List T
  | .pair a b => [a, b]
  | .nil => []
  | .var _ => []
  | .sym _ => []
  | .num _ => []
theorem T.ind {p : T → Prop} (h : ∀ x : T, (∀ y ∈ x.args, p y) → p x) : ∀ x, p x
  | .pair a b => by
    have ha := T.ind h a
    have hb := T.ind h b
    refine h _ fun y hy => ?_
    simp only [T.args, List.mem_cons, List.not_mem_nil, or_false] at hy
    rcases hy with rfl | rfl
    · exact ha
    · exact hb
  | .nil => h _ fun y hy => by simp [T.args] at hy
  | .var _ => h _ fun y hy => by simp [T.args] at hy
  | .sym _ => h _ fun y hy => by simp [T.args] at hy
  | .num _ => h _ fun y hy => by simp [T.args] at hy
theorem T.tm_args (x : T) : x.tm.args = x.args.map T.tm := by cases x <;> rfl
theorem T.vars_args {x : T} (h : x.tm.kind ≠ 1) : x.vars = x.args.flatMap T.vars := by
  cases x <;> simp_all [T.vars, T.args, T.tm, Tm.kind]
theorem T.vars_size : ∀ x : T, x.vars.length ≤ x.size
  | .nil => by simp [T.vars]
  | .var _ => by simp [T.vars, T.size]
  | .sym _ => by simp [T.vars]
  | .num _ => by simp [T.vars]
  | .pair a b => by
    have := T.vars_size a
    have := T.vars_size b
    simp [T.vars, T.size]; omega
/-- A list of numbers that holds a term's variables, beside those of l. -/
def VarsOf (μ' : Mem) (l vs : List Int) (v : Value) : Prop := ∃ r : List Int, RepV μ' (.sl 1 (r.map D.i)) v ∧ (∀ x, x ∈ r ↔ x ∈ vs ∨ x ∈ l) ∧ r.length ≤ l.length + vs.length
theorem l02Vars_spec : ∀ (x : T) {μ : Mem} {l : List Int} {w v : Value}, RepV μ x.tm.d w → RepV μ (.sl 1 (l.map D.i)) v → l.length + x.vars.length ≤ 1000000000 → Spec Tryz.prog 167 [w, v] μ fun v μ' => VarsOf μ' l x.vars v :=
  T.ind fun x ih μ l w v hw hv hb => by
    obtain ⟨base, cap, rfl, hsl⟩ : ∃ base cap, w = .agg #[.int .i64 x.tm.kind, .int .i64 x.tm.num, .string x.tm.name, .slice base x.args.length cap] ∧ Sl μ 4 base x.args.length ((x.args.map T.tm).map Tm.d) := by
      have h1 := Tm.inv (k := x.tm.kind) (n := x.tm.num) (s := x.tm.name) (l := x.tm.args) (v := w) (by cases x <;> exact hw)
      rw [T.tm_args, List.length_map] at h1
      exact h1
    have hn := maxLen_le hsl.max
    refine Spec.mk Tryz.func167 (by kernel_rfl) ?_
    intro r
    refine ifd (fun h => ?_) (fun h => ?_)
    · have e : x.vars = [x.tm.num] := by cases x <;> simp_all [T.vars, T.tm, Tm.kind, Tm.num]
      refine call_plain (l02Insert_spec hv (by omega)) fun v' μ' hle hR => ret_plain ?_
      obtain ⟨r, h1, h2, h3⟩ := hR
      exact ⟨r, h1, by simpa [e] using h2, by simpa [e] using h3⟩
    have e := T.vars_args h
    refine loop_intro (fun p : Nat × Value × Mem => p.1 ≤ x.args.length ∧ μ.Le p.2.2 ∧ VarsOf p.2.2 l ((x.args.take p.1).flatMap T.vars) p.2.1)
      (fun (i, v, μ') => ⟨[(1, .val v), (15, .val (.slice base x.args.length cap)), (16, .val (.int .i64 x.args.length)), (17, .val (.int .i64 i))], [], 1, μ', Mem.nil⟩) (fun p => x.args.length - p.1)
      (0, v, μ) ⟨by simp, Mem.Le.refl μ, l, hv, by simp, by simp⟩ (fun (_, _, _) => ⟨rfl, rfl⟩) ⟨⟨rfl, rfl, rfl, rfl, trivial⟩, trivial, rfl, rfl⟩ ?_
    rintro ⟨i, v, μ'⟩ ⟨hi, hle, r, h1, h2, h3⟩
    dsimp only at hi hle h1 h2 h3
    have hpre : ((x.args.take i).flatMap T.vars).length ≤ x.vars.length := by
      rw [e]; exact flatMap_take_le _ _ _
    refine ifd (fun h => ?_) (fun h => ?_)
    · obtain ⟨t, ht⟩ := at_some (l := x.args) (i := i) (by omega)
      have ht' : (x.args.map T.tm)[i]? = some t.tm := by simp [ht]
      obtain ⟨ad, p, hel, hr⟩ := Tm.elem (hsl.mono hle) ht'
      have hsucc : (x.args.take (i + 1)).flatMap T.vars = (x.args.take i).flatMap T.vars ++ t.vars := by
        rw [List.take_add_one, ht, Option.toList_some, List.flatMap_append]; simp
      have hall : ((x.args.take (i + 1)).flatMap T.vars).length ≤ x.vars.length := by
        rw [e]; exact flatMap_take_le _ _ _
      rw [hsucc, List.length_append] at hall
      refine elem_intro hel ?_
      intro r2
      refine call_plain (ih t (mem_at ht) hr h1 (by omega)) fun v' μ'' hle2 hR => ?_
      obtain ⟨q, g1, g2, g3⟩ := hR
      refine num64 (by omega) (by omega) ⟨(i + 1, v', μ''), ⟨by dsimp only; omega, hle.trans hle2, q, g1, fun y => ?_, ?_⟩, by dsimp only; omega, ⟨⟨rfl, rfl, rfl, rfl, trivial⟩, trivial, rfl, rfl⟩⟩
      · dsimp only
        rw [g2, h2, hsucc, List.mem_append]
        constructor
        · rintro (h | h | h) <;> simp [h]
        · rintro ((h | h) | h) <;> simp [h]
      · dsimp only
        rw [hsucc, List.length_append]; omega
    · have hi' : i = x.args.length := by omega
      subst hi'
      rw [List.take_length, ← e] at h2 h3
      exact ret_plain ⟨r, h1, h2, h3⟩
end
end Go.Vx

/- Contracts: lists of bindings, and the reference's substitutions. -/
namespace Go.Vx
open Go.Proofs Classical
/-! ### Plain -/
noncomputable def Tm.toT (t : Tm) : T := if h : ∃ x : T, x.tm = t then h.choose else .nil
theorem T.toT_tm (x : T) : x.tm.toT = x := by
  have h : ∃ y : T, y.tm = x.tm := ⟨x, rfl⟩
  rw [Tm.toT, dif_pos h]
  exact T.tm_inj h.choose_spec
theorem Tm.Ok.toT {t : Tm} (h : t.Ok) : t.toT.ok ∧ t.toT.tm = t := by
  obtain ⟨x, h1, rfl⟩ := h.lift
  rw [T.toT_tm]; exact ⟨h1, rfl⟩
structure B where
  var : Int
  to : T
def B.bd (b : B) : Bd := ⟨b.var, b.to.tm⟩
noncomputable def Bd.b (b : Bd) : B := ⟨b.var, b.to.toT⟩
/-- Binding i of a list is fine. -/
def okAt (l : List Bd) (i : Nat) (b : Bd) : Prop := (0 ≤ b.var ∧ b.var ≤ 100000) ∧ b.to.Ok ∧ ∀ j c, j + 1 = i → l[j]? = some c → c.var < b.var
def valsOk (l : List Bd) : Prop := l.length ≤ 400 ∧ ∀ i b, l[i]? = some b → okAt l i b
theorem valsOk.lift {l : List Bd} (h : valsOk l) : (l.map Bd.b).map B.bd = l ∧ (∀ b ∈ l.map Bd.b, b.to.ok) := by
  have h2 : ∀ b ∈ l, b.to.Ok := fun b hb => by
    obtain ⟨i, hi⟩ := List.mem_iff_getElem?.1 hb
    exact (h.2 i b hi).2.1
  clear h
  induction l with
  | nil => simp
  | cons b l ih =>
    have h1 := (h2 b (by simp)).toT
    obtain ⟨i1, i2⟩ := ih fun b hb => h2 b (by simp [hb])
    refine ⟨?_, ?_⟩
    · simp only [List.map_cons, i1, List.cons.injEq, and_true, Bd.b, B.bd, h1.2]
    · intro c hc
      simp only [List.map_cons, List.mem_cons] at hc
      rcases hc with rfl | hc
      · exact h1.1
      · exact i2 c hc
def sub : List B → Int → Option T
  | [], _ => none
  | b :: r, n => if b.var = n then some b.to else sub r n
def T.subst (f : Int → Option T) : T → T
  | .var n => (f n).getD (.var n)
  | .pair a b => .pair (a.subst f) (b.subst f)
  | .nil => .nil
  | .sym s => .sym s
  | .num n => .num n
theorem drop_at {α : Type} {l : List α} {i : Nat} {a : α} (h : l[i]? = some a) : l.drop i = a :: l.drop (i + 1) := by
  obtain ⟨h1, h2⟩ := List.getElem?_eq_some_iff.1 h
  rw [List.drop_eq_getElem_cons h1, h2]
/-- A term and whether it is one. -/
def optV (P : T → Value → Prop) (o : Option T) (v : Value) : Prop := match o with
  | some y => ∃ tv, v = .tuple #[tv, .bool true] ∧ P y tv
  | none => v = .tuple #[.agg #[.int .i64 0, .int .i64 0, .string ⟨#[]⟩, .slice none 0 0], .bool false]
section
variable {μ : Mem}
theorem T.fits (x : T) : (upTo (x.size : Int) 5000 ≤ 5000) ↔ x.size ≤ 5000 := by unfold upTo; omega
/-- An element's term. -/
theorem Bd.toV {b : Bd} {p : Option Addr × Nat} (h : RepV μ b.d (.agg (b.cs p).toArray)) : RepV μ b.to.d (.agg (b.to.cs p).toArray) := by
  obtain ⟨q, e, hto⟩ := Bd.inv h
  have hq : q = p := by
    have h2 := congrArg (fun v => match v with | Value.agg a => a[4]? | _ => none) e
    simp [Bd.cs] at h2
    exact Prod.ext h2.1.symm h2.2.symm
  rw [← hq]; exact hto
/-! ### The reference's -/
theorem l02Pair_spec {a b : T} {va vb : Value} (ha : RepV μ a.tm.d va) (hb : RepV μ b.tm.d vb) : Spec Tryz.prog 287 [va, vb] μ fun v μ' => RepV μ' (T.pair a b).tm.d v := by
  obtain ⟨p, rfl⟩ := Tm.invV ha
  obtain ⟨q, rfl⟩ := Tm.invV hb
  refine Spec.mk Tryz.func287 (by kernel_rfl) ?_
  intro r1 r2 r3 r4
  refine ret_frz [3] fun μ' hle hno hrow => .inl ?_
  rw [T.tm, Tm.d_mk]
  exact ⟨_, rfl, RepS.int (RepS.int (RepS.str (RepS.last (Rows.sl hrow (.cons (ha.mono hle) (Tm.d_n _) (.cons (hb.mono hle) (Tm.d_n _) .nil)) (show 2 ≤ maxLen by decide)))))⟩
theorem l02Fits_spec (x : T) {v : Value} (hv : RepV μ x.tm.d v) : Gives Tryz.prog 257 [v] μ (.bool (decide (x.size ≤ 5000))) := by
  obtain ⟨p, rfl⟩ := Tm.invV hv
  refine Spec.mk Tryz.func257 (by kernel_rfl) ?_
  intro r
  refine call_gives (l02Count_spec x.tm hv (by decide) (by decide)) (ret_gives ?_ rfl)
  rw [T.cnt_tm]
  exact isI (T.fits x)
theorem l04Get_spec {bs : List B} {base : Option Addr} {cap : Nat} {n : Int} (hsl : Sl μ 5 base bs.length ((bs.map B.bd).map Bd.d)) :
    Spec Tryz.prog 168 [.slice base bs.length cap, .int .i64 n] μ fun v μ' => optV (fun y tv => RepV μ y.tm.d tv) (sub bs n) v ∧ μ' = μ := by
  have hn := maxLen_le hsl.max
  refine Spec.mk Tryz.func168 (by kernel_rfl) ?_
  intro r
  refine loop_intro (fun i : Nat => i ≤ bs.length ∧ sub bs n = sub (bs.drop i) n) (fun i => ⟨[(1, .val (.int .i64 n)), (4, .loc 0 r 0), (8, .val (.slice base bs.length cap)), (9, .val (.int .i64 bs.length)), (10, .val (.int .i64 i))], [(0, some (.cells r [.val (.int .i64 0), .val (.int .i64 0), .val (.string ⟨#[]⟩), .val (.slice none 0 0)] 44))], 1, μ, Mem.nil⟩) (fun i => bs.length - i)
    0 ⟨by omega, rfl⟩ (fun i => ⟨rfl, rfl⟩) ⟨⟨rfl, rfl, rfl, rfl, rfl, trivial⟩, ⟨rfl, trivial⟩, rfl, rfl⟩ ?_
  rintro i ⟨hi, he⟩
  refine ifd (fun h => ?_) (fun h => ?_)
  · obtain ⟨b, hb⟩ := at_some (l := bs) (i := i) (by omega)
    have hb' : (bs.map B.bd)[i]? = some b.bd := by simp [hb]
    obtain ⟨ad, p, hel, hr⟩ := Bd.elem hsl hb'
    have hto := Bd.toV hr
    rw [drop_at hb] at he
    refine elem_intro hel ?_
    intro r2
    refine ifd (fun h2 => ?_) (fun h2 => ?_)
    · have h2 : b.var = n := h2
      have e2 : sub bs n = some b.to := by rw [he, sub, if_pos h2]
      rw [e2]
      exact ret_plain ⟨⟨_, rfl, hto⟩, rfl⟩
    · have h2 : ¬ b.var = n := h2
      have e2 : sub bs n = sub (bs.drop (i + 1)) n := by rw [he, sub, if_neg h2]
      exact num64 (by omega) (by omega) ⟨i + 1, ⟨by omega, e2⟩, by omega, ⟨⟨rfl, rfl, rfl, rfl, rfl, trivial⟩, ⟨rfl, trivial⟩, rfl, rfl⟩⟩
  · obtain rfl : i = bs.length := by omega
    rw [List.drop_length] at he
    rw [he]
    exact ret_plain ⟨rfl, rfl⟩
theorem l04Put_spec {bs : List B} {base : Option Addr} {cap : Nat} : ∀ (x : T) {μ : Mem} {v : Value}, Sl μ 5 base bs.length ((bs.map B.bd).map Bd.d) → RepV μ x.tm.d v →
    Spec Tryz.prog 201 [.slice base bs.length cap, v] μ fun v μ' => RepV μ' (x.subst (sub bs)).tm.d v := by
  intro x
  induction x with
  | var n =>
    intro μ v hsl hv
    obtain ⟨p, rfl⟩ := Tm.invV hv
    refine Spec.mk Tryz.func201 (by kernel_rfl) ?_
    intro r1 r2
    refine ifd (fun _ => ?_) (fun h => absurd rfl h)
    refine call_plain (l04Get_spec hsl) fun v' μ' hle hR => ?_
    obtain ⟨hR, e2⟩ := hR
    obtain rfl := e2.symm
    have hR : optV (fun y tv => RepV μ y.tm.d tv) (sub bs n) v' := hR
    simp only [T.subst]
    cases hs : sub bs n with
    | some y =>
      rw [hs] at hR
      obtain ⟨tv, rfl, htv⟩ := hR
      obtain ⟨q, rfl⟩ := Tm.invV htv
      intro r3
      refine if_intro (fun _ => ret_plain htv) (fun h => nomatch h)
    | none =>
      rw [hs] at hR
      obtain rfl := hR
      intro r3
      refine if_intro (fun h => nomatch h) (fun _ => ?_)
      refine ifd (fun h => absurd h (by simp [T.tm, Tm.kind])) (fun _ => ?_)
      exact ret_plain hv
  | pair a b iha ihb =>
    intro μ v hsl hv
    obtain ⟨base', cap', rfl, hsa⟩ := Tm.inv hv
    obtain ⟨ad, ad', p, p', h1, h2, hra, hrb⟩ := T.parts hsa
    refine Spec.mk Tryz.func201 (by kernel_rfl) ?_
    intro r1 r2
    refine ifd (fun h => absurd h (by simp [T.tm, Tm.kind])) (fun _ => ?_)
    refine ifd (fun _ => ?_) (fun h => absurd rfl h)
    refine elem_intro h1 ?_
    refine elem_intro h2 ?_
    refine call_plain (iha hsl hra) fun v1 μ1 hle1 hR1 => ?_
    refine call_plain (ihb (hsl.mono hle1) (hrb.mono hle1)) fun v2 μ2 hle2 hR2 => ?_
    refine call_plain (l02Pair_spec (hR1.mono hle2) hR2) fun v3 μ3 hle3 hR3 => ?_
    obtain ⟨q, rfl⟩ := Tm.invV hR3
    exact ret_plain hR3
  | _ =>
    intro μ v hsl hv
    obtain ⟨p, rfl⟩ := Tm.invV hv
    refine Spec.mk Tryz.func201 (by kernel_rfl) ?_
    intro r1 r2
    refine ifd (fun h => absurd h (by simp [T.tm, Tm.kind])) (fun _ => ?_)
    refine ifd (fun h => absurd h (by simp [T.tm, Tm.kind])) (fun _ => ?_)
    exact ret_plain hv
theorem l04Apply_spec {bs : List B} {base : Option Addr} {cap : Nat} (x : T) {v : Value} (hsl : Sl μ 5 base bs.length ((bs.map B.bd).map Bd.d)) (hv : RepV μ x.tm.d v) :
    Spec Tryz.prog 175 [.slice base bs.length cap, v] μ fun v μ' => ∃ tv, v = .tuple #[tv, .bool (decide ((x.subst (sub bs)).size ≤ 5000))] ∧ RepV μ' (x.subst (sub bs)).tm.d tv := by
  obtain ⟨p, rfl⟩ := Tm.invV hv
  refine Spec.mk Tryz.func175 (by kernel_rfl) ?_
  intro r1 r2
  refine call_plain (l04Put_spec x hsl hv) fun v1 μ1 hle1 hR1 => ?_
  obtain ⟨q, rfl⟩ := Tm.invV hR1
  intro r3
  refine call_gives (l02Fits_spec _ hR1) ?_
  exact ret_plain ⟨_, rfl, hR1⟩
end
end Go.Vx

/- Contracts: which lists of bindings are fine; copies; the reference's Instantiate. -/
namespace Go.Vx
open Go.Proofs Classical
section
variable {μ : Mem}
theorem okAt_ext {l : List Bd} {i : Nat} (hall : ∀ j b, j < i → l[j]? = some b → okAt l j b) {b : Bd} (hb : l[i]? = some b) (h : okAt l i b) : ∀ j b, j < i + 1 → l[j]? = some b → okAt l j b := fun j c hj hc => by
  rcases Nat.lt_or_ge j i with h1 | h1
  · exact hall j c h1 hc
  · obtain rfl : j = i := by omega
    rw [hb] at hc; cases hc; exact h
theorem l04Values_spec {l : List Bd} {base : Option Addr} {cap : Nat} (hsl : Sl μ 5 base l.length (l.map Bd.d)) (hw : D.wds (l.map Bd.d)) : Gives Tryz.prog 166 [.slice base l.length cap] μ (.bool (decide (valsOk l))) := by
  have hn := maxLen_le hsl.max
  refine Spec.mk Tryz.func166 (by kernel_rfl) ?_
  refine loop_intro (fun i : Nat => i ≤ l.length ∧ ∀ j b, j < i → l[j]? = some b → okAt l j b) (fun i => ⟨[(0, .val (.slice base l.length cap)), (5, .val (.slice base l.length cap)), (6, .val (.int .i64 l.length)), (7, .val (.int .i64 i))], [], 0, μ, Mem.nil⟩) (fun i => l.length - i)
    0 ⟨by omega, fun j b hj => by omega⟩ (fun i => ⟨rfl, rfl⟩) ⟨⟨rfl, rfl, rfl, rfl, trivial⟩, trivial, rfl, rfl⟩ ?_
  rintro i ⟨hi, hall⟩
  refine ifd (fun h => ?_) (fun h => ?_)
  · obtain ⟨b, hb⟩ := at_some (l := l) (i := i) (by omega)
    obtain ⟨ad, p, hel, hr⟩ := Bd.elem hsl hb
    have hto := Bd.toV hr
    have hwt : b.to.d.wd := (D.wds_mem hw _ (mem_at (at_map (f := Bd.d) hb))).2.1
    have bad : ¬ okAt l i b → Value.bool false = .bool (decide (valsOk l)) := fun k => isF fun hv => k (hv.2 i b hb)
    refine elem_intro hel ?_
    intro r
    refine ifd (fun h0 => ?_) (fun h0 => ?_)
    · obtain ⟨c, hc⟩ := at_some (l := l) (i := i - 1) (by omega)
      obtain ⟨ad2, p2, hel2, _⟩ := Bd.elem hsl hc
      have hprev : okAt l i b → c.var < b.var := fun k => k.2.2 (i - 1) c (by omega) hc
      refine num_eq (x := ((i - 1 : Nat) : Int)) (by rw [wrap64 (by omega) (by omega)]; omega) ?_
      refine elem_intro hel2 ?_
      refine ifd (fun h1 => ret_gives (bad fun k => by have := hprev k; omega) rfl) (fun h1 => ?_)
      have hlt : ∀ j c', j + 1 = i → l[j]? = some c' → c'.var < b.var := fun j c' hj hc' => by
        have e : j = i - 1 := by omega
        rw [e, hc] at hc'
        cases hc'; omega
      refine call_gives (l01In_spec _ _ _ _) ?_
      refine ifnd (fun h2 => ret_gives (bad fun k => h2 k.1) rfl) (fun h2 => ?_)
      refine call_gives (spec_TermOk_spec b.to hto hwt) ?_
      refine ifnd (fun h3 => ret_gives (bad fun k => h3 k.2.1) rfl) (fun h3 => ?_)
      exact num64 (by omega) (by omega) ⟨i + 1, ⟨by omega, okAt_ext hall hb ⟨h2, h3, hlt⟩⟩, by omega, ⟨⟨rfl, rfl, rfl, rfl, trivial⟩, trivial, rfl, rfl⟩⟩
    · refine call_gives (l01In_spec _ _ _ _) ?_
      refine ifnd (fun h2 => ret_gives (bad fun k => h2 k.1) rfl) (fun h2 => ?_)
      refine call_gives (spec_TermOk_spec b.to hto hwt) ?_
      refine ifnd (fun h3 => ret_gives (bad fun k => h3 k.2.1) rfl) (fun h3 => ?_)
      exact num64 (by omega) (by omega) ⟨i + 1, ⟨by omega, okAt_ext hall hb ⟨h2, h3, fun j c' hj _ => by omega⟩⟩, by omega, ⟨⟨rfl, rfl, rfl, rfl, trivial⟩, trivial, rfl, rfl⟩⟩
  · obtain rfl : i = l.length := by omega
    refine ret_gives (isI ⟨fun hh => ⟨by omega, fun j b hb => hall j b (List.getElem?_eq_some_iff.1 hb).1 hb⟩, fun hh => by have := hh.1; omega⟩) rfl
theorem impl_ValuesOk_spec {l : List Bd} {base : Option Addr} {cap : Nat} (hsl : Sl μ 5 base l.length (l.map Bd.d)) : Gives Tryz.prog 171 [.slice base l.length cap] μ (.bool (decide (valsOk l))) := by
  have hn := maxLen_le hsl.max
  refine Spec.mk Tryz.func171 (by kernel_rfl) ?_
  refine ifd (fun h => ret_gives (isF fun k => by have := k.1; omega) rfl) (fun hlen => ?_)
  refine loop_intro (fun i : Nat => i ≤ l.length ∧ ∀ j b, j < i → l[j]? = some b → okAt l j b) (fun i => ⟨[(0, .val (.slice base l.length cap)), (8, .val (.slice base l.length cap)), (9, .val (.int .i64 l.length)), (10, .val (.int .i64 i))], [], 0, μ, Mem.nil⟩) (fun i => l.length - i)
    0 ⟨by omega, fun j b hj => by omega⟩ (fun i => ⟨rfl, rfl⟩) ⟨⟨rfl, rfl, rfl, rfl, trivial⟩, trivial, rfl, rfl⟩ ?_
  rintro i ⟨hi, hall⟩
  refine ifd (fun h => ?_) (fun h => ?_)
  · obtain ⟨b, hb⟩ := at_some (l := l) (i := i) (by omega)
    obtain ⟨ad, p, hel, hr⟩ := Bd.elem hsl hb
    have hto := Bd.toV hr
    have bad : ¬ okAt l i b → Value.bool false = .bool (decide (valsOk l)) := fun k => isF fun hv => k (hv.2 i b hb)
    refine elem_intro hel ?_
    intro r
    refine ifd (fun h1 => ret_gives (bad fun k => by have := k.1.1; omega) rfl) (fun h1 => ?_)
    refine ifd (fun h2 => ret_gives (bad fun k => by have := k.1.2; omega) rfl) (fun h2 => ?_)
    refine ifd (fun h0 => ?_) (fun h0 => ?_)
    · obtain ⟨c, hc⟩ := at_some (l := l) (i := i - 1) (by omega)
      obtain ⟨ad2, p2, hel2, _⟩ := Bd.elem hsl hc
      have hprev : okAt l i b → c.var < b.var := fun k => k.2.2 (i - 1) c (by omega) hc
      refine num_eq (x := ((i - 1 : Nat) : Int)) (by rw [wrap64 (by omega) (by omega)]; omega) ?_
      refine elem_intro hel2 ?_
      refine ifd (fun h1 => ret_gives (bad fun k => by have := hprev k; omega) rfl) (fun h3 => ?_)
      have hlt : ∀ j c', j + 1 = i → l[j]? = some c' → c'.var < b.var := fun j c' hj hc' => by
        have e : j = i - 1 := by omega
        rw [e, hc] at hc'
        cases hc'; omega
      refine call_gives (impl_TermOk_spec b.to hto) ?_
      refine ifnd (fun h3 => ret_gives (bad fun k => h3 k.2.1) rfl) (fun h4 => ?_)
      exact num64 (by omega) (by omega) ⟨i + 1, ⟨by omega, okAt_ext hall hb ⟨⟨by omega, by omega⟩, h4, hlt⟩⟩, by omega, ⟨⟨rfl, rfl, rfl, rfl, trivial⟩, trivial, rfl, rfl⟩⟩
    · refine call_gives (impl_TermOk_spec b.to hto) ?_
      refine ifnd (fun h3 => ret_gives (bad fun k => h3 k.2.1) rfl) (fun h4 => ?_)
      exact num64 (by omega) (by omega) ⟨i + 1, ⟨by omega, okAt_ext hall hb ⟨⟨by omega, by omega⟩, h4, fun j c' hj _ => by omega⟩⟩, by omega, ⟨⟨rfl, rfl, rfl, rfl, trivial⟩, trivial, rfl, rfl⟩⟩
  · obtain rfl : i = l.length := by omega
    exact ret_gives (isT ⟨by omega, fun j b hb => hall j b (List.getElem?_eq_some_iff.1 hb).1 hb⟩) rfl
end
end Go.Vx

/- Contracts: copies; the reference's Instantiate. -/
namespace Go.Vx
open Go.Proofs Classical
theorem T.d_eq (x : T) : x.tm.d = .st [.i x.tm.kind, .i x.tm.num, .s x.tm.name, .sl 4 ((x.args.map T.tm).map Tm.d)] := by
  rw [Tm.d_eq, T.tm_args]
theorem T.inv {μ : Mem} {x : T} {w : Value} (hw : RepV μ x.tm.d w) : ∃ base cap, w = .agg #[.int .i64 x.tm.kind, .int .i64 x.tm.num, .string x.tm.name, .slice base x.args.length cap] ∧ Sl μ 4 base x.args.length ((x.args.map T.tm).map Tm.d) := by
  have h1 := Tm.inv (k := x.tm.kind) (n := x.tm.num) (s := x.tm.name) (l := x.tm.args) (v := w) (by cases x <;> exact hw)
  rw [T.tm_args, List.length_map] at h1
  exact h1
theorem T.args_le (x : T) : x.args.length ≤ 2 := by cases x <;> simp [T.args]
theorem l02Copy_spec : ∀ (x : T) {μ : Mem} {v : Value}, RepV μ x.tm.d v → Spec Tryz.prog 176 [v] μ fun v μ' => RepV μ' x.tm.d v :=
  T.ind fun x ih μ v hv => by
    obtain ⟨base, cap, rfl, hsl⟩ := T.inv hv
    have hn := T.args_le x
    refine Spec.mk Tryz.func176 (by kernel_rfl) ?_
    intro r1 r2 r3
    refine loop_nil (fun p : Nat × Option Nat × Nat × List Value × Mem => p.1 ≤ x.args.length ∧ μ.Le p.2.2.2.2 ∧ Rows p.2.2.2.2 4 (((x.args.take p.1).map T.tm).map Tm.d) p.2.2.2.1)
      (fun (i, b, c, ys, μ') => ⟨[(2, .loc 1 r2 0), (3, .loc 2 r3 0), (14, .val (.slice base x.args.length cap)), (15, .val (.int .i64 x.args.length)), (16, .val (.int .i64 i))],
        [(1, some (.cells r2 [.val (.int .i64 0), .val (.int .i64 0), .val (.string ⟨#[]⟩), .val (.slice none 0 0)] 44)), (2, some (.cells r3 [.val (.int .i64 x.tm.kind), .val (.int .i64 x.tm.num), .val (.string x.tm.name), .row 3 b ys.length c] 44)), (3, some (.row b c 44 4 ys))], 4, μ', Mem.nil⟩) (fun p => x.args.length - p.1)
      (0, none, 0, [], μ) ⟨by simp, Mem.Le.refl μ, .nil⟩ (fun (_, _, _, _, _) => ⟨rfl, rfl⟩) ⟨⟨⟨_, rfl, .inl rfl⟩, ⟨_, rfl, .inl rfl⟩, ⟨_, rfl, .inl rfl⟩, ⟨_, rfl, .inl rfl⟩, ⟨_, rfl, .inl rfl⟩, trivial⟩, ⟨.inl rfl, .inr (.inr ⟨_, _, _, _, rfl, rfl, .inl rfl, .inl rfl, .inl rfl, .inr ⟨3, rfl, rfl, Nat.le_refl _⟩, trivial⟩), .inr (.inl ⟨_, _, rfl, Nat.le_refl _⟩), trivial⟩, rfl, rfl⟩ ?_
    rintro ⟨i, b, c, ys, μ'⟩ ⟨hi, hle, hrows⟩
    dsimp only at hi hle hrows
    have hlen := hrows.len
    simp only [List.length_map, List.length_take] at hlen
    refine ifd (fun h => ?_) (fun h => ?_)
    · obtain ⟨t, ht⟩ := at_some (l := x.args) (i := i) (by omega)
      have ht' : (x.args.map T.tm)[i]? = some t.tm := by simp [ht]
      obtain ⟨ad, p, hel, hr⟩ := Tm.elem (hsl.mono hle) ht'
      refine elem_intro hel ?_
      intro r4
      refine call_plain (ih t (mem_at ht) hr) fun v' μ'' hle2 hR => ?_
      obtain ⟨q, rfl⟩ := Tm.invV hR
      intro r5
      refine grow_intro ?_ ?_ fun b' c' _ => ?_
      · show (ys.length + 1) * 56 ≤ _; omega
      · show ys.length + 1 ≤ 9223372036854775807; omega
      have hsucc : ((x.args.take (i + 1)).map T.tm).map Tm.d = ((x.args.take i).map T.tm).map Tm.d ++ [t.tm.d] := by
        rw [List.take_add_one, ht, Option.toList_some]; simp
      exact num64 (by omega) (by omega) ⟨(i + 1, b', c', _, μ''), ⟨by dsimp only; omega, hle.trans hle2, by rw [hsucc]; exact (hrows.mono hle2).append (Rows.one hR (Tm.d_n _))⟩, by dsimp only; omega, ⟨⟨rfl, rfl, rfl, rfl, rfl, trivial⟩, ⟨rfl, rfl, rfl, trivial⟩, rfl, rfl⟩⟩
    · obtain rfl : i = x.args.length := by omega
      rw [List.take_length] at hrows
      refine ret_frz [3] fun μ2 hle2 hno hrow => .inl ?_
      rw [T.d_eq]
      exact ⟨_, rfl, RepS.int (RepS.int (RepS.str (RepS.last (Rows.sl hrow (hrows.mono hle2) (Nat.le_trans (m := 10) (by omega) (by decide))))))⟩
end Go.Vx

/- Contracts: the program's substitutions: pairs, copies, mapped variables. -/
namespace Go.Vx
open Go.Proofs Classical
section
variable {μ : Mem}
theorem T.leaf_own {x : T} {v : Value} (h : x.args = []) (hv : RepV μ x.tm.d v) : OwnV x.tm.d Mem.nil v := by
  obtain ⟨base, cap, rfl, _⟩ := T.inv hv
  rw [T.d_eq, h]
  rw [T.d_eq, h] at hv
  obtain ⟨cs, e, h1⟩ := hv
  obtain ⟨_, _, rfl, rfl, _, _, rfl, rfl, _, _, rfl, rfl, _, _, rfl, h7, rfl⟩ := h1
  obtain ⟨b, c, rfl, hl, _, _⟩ := h7
  exact ⟨_, e, OwnS.int (OwnS.int (OwnS.str (OwnS.last ⟨b, c, rfl, hl, by simp, .inl ⟨rfl, rfl⟩⟩)))⟩
theorem T.leaf_fresh {x : T} {v : Value} {μ' : Mem} (h : x.args = []) (hv : RepV μ x.tm.d v) : Fresh μ μ' x.tm.d v := ⟨Mem.nil, T.leaf_own h hv, (fun _ _ h => nomatch h), fun _ h => absurd rfl h⟩
/-- Two data of one's own make a row of one's own. -/
theorem two_fresh {μ1 μ2 : Mem} {a b : D} {va vb : Value} (na : a.n = 4) (nb : b.n = 4) (h1 : μ.Le μ1) (h2 : μ1.Le μ2) (ha : Fresh μ μ1 a va) (hb : Fresh μ1 μ2 b vb) : ∃ g, OwnRows 4 [a, b] [va, vb] g ∧ g.Le μ2 ∧ ∀ x, g x ≠ none → μ x = none := by
  obtain ⟨ga, a1, a2, a3⟩ := ha
  obtain ⟨gb, b1, b2, b3⟩ := hb
  have hap := fresh_apart a2 b3
  have k1 := (OwnRows.nil 4).snoc a1 na (Apart.nil_left _)
  have k2 := k1.snoc b1 nb (fun x hx => hap x (by
    rcases join_ne hx with h | h
    · exact absurd rfl h
    · exact h))
  refine ⟨_, k2, join_le (join_le (fun _ _ h => nomatch h) (a2.trans h2)) b2, fun x hx => ?_⟩
  rcases join_ne hx with h | h
  · rcases join_ne h with h | h
    · exact absurd rfl h
    · exact a3 x h
  · cases h0 : μ x with
    | none => rfl
    | some o => have := b3 x h; rw [h1 x o h0] at this; cases this
theorem pair_spec {a b : T} {va vb : Value} {μ0 g : Mem} (ha : RepV μ a.tm.d va) (hb : RepV μ b.tm.d vb) (hg : OwnRows 4 [a.tm.d, b.tm.d] [va, vb] g) (h1 : g.Le μ) (h2 : ∀ x, g x ≠ none → μ0 x = none) (h3 : μ0.Le μ) :
    Spec Tryz.prog 290 [va, vb] μ fun v μ' => Fresh μ0 μ' (T.pair a b).tm.d v := by
  obtain ⟨p, rfl⟩ := Tm.invV ha
  obtain ⟨q, rfl⟩ := Tm.invV hb
  refine Spec.mk Tryz.func290 (by kernel_rfl) ?_
  intro r1 r2 r3 r4
  refine ret_frz [3] fun μ' hle hno hrow => .inl ?_
  have hf := Fresh.ofRow hg h1 h2 h3 hle hno hrow (show 2 ≤ maxLen by decide)
  obtain ⟨gg, k1, k2, k3⟩ := hf
  rw [T.d_eq]
  exact ⟨gg, ⟨_, rfl, OwnS.int (OwnS.int (OwnS.str (OwnS.last k1)))⟩, k2, k3⟩
theorem copyTerm_spec : ∀ (x : T) {μ : Mem} {v : Value}, RepV μ x.tm.d v → Spec Tryz.prog 279 [v] μ fun v μ' => Fresh μ μ' x.tm.d v := by
  intro x
  induction x with
  | pair a b iha ihb =>
    intro μ v hv
    obtain ⟨base', cap', rfl, hsa⟩ := Tm.inv hv
    obtain ⟨ad, ad', p, p', h1, h2, hra, hrb⟩ := T.parts hsa
    refine Spec.mk Tryz.func279 (by kernel_rfl) ?_
    intro r1 r2
    refine ifnd (fun h => absurd rfl h) (fun _ => ?_)
    refine elem_intro h1 ?_
    refine elem_intro h2 ?_
    refine call_plain (iha hra) fun v1 μ1 hle1 hR1 => ?_
    refine call_plain (ihb (hrb.mono hle1)) fun v2 μ2 hle2 hR2 => ?_
    obtain ⟨g, k1, k2, k3⟩ := two_fresh (Tm.d_n _) (Tm.d_n _) hle1 hle2 hR1 hR2
    obtain ⟨q1, rfl⟩ := Tm.invV hR1.rep
    obtain ⟨q2, rfl⟩ := Tm.invV hR2.rep
    intro r3
    refine ret_frz [2] fun μ' hle hno hrow => .inl ?_
    obtain ⟨gg, g1, g2, g3⟩ := Fresh.ofRow k1 k2 k3 (hle1.trans hle2) hle hno hrow (show 2 ≤ maxLen by decide)
    rw [T.d_eq]
    exact ⟨gg, ⟨_, rfl, OwnS.int (OwnS.int (OwnS.str (OwnS.last g1)))⟩, g2, g3⟩
  | _ =>
    intro μ v hv
    obtain ⟨base', cap', rfl, hsa⟩ := Tm.inv hv
    refine Spec.mk Tryz.func279 (by kernel_rfl) ?_
    intro r1 r2
    refine ifnd (fun _ => ?_) (fun h => absurd h (by simp))
    refine ret_plain ?_
    rw [T.d_eq]
    exact ⟨Mem.nil, ⟨_, rfl, OwnS.int (OwnS.int (OwnS.str (OwnS.last (Own.nilSl 4))))⟩, (fun _ _ h => nomatch h), fun _ h => absurd rfl h⟩
/-- A closure that looks variables up. -/
def Looks (k : FuncId) (caps : List Value) (μ : Mem) (f : Int → Option T) : Prop :=
  ∀ μ', μ.Le μ' → ∀ n, Spec Tryz.prog k (.int .i64 n :: caps) μ' fun v μ'' => optV (fun y tv => RepV μ'' y.tm.d tv) (f n) v
theorem mapVars_spec {k : FuncId} {caps : List Value} {f : Int → Option T} : ∀ (x : T) {μ : Mem} {v : Value}, Looks k caps μ f → RepV μ x.tm.d v →
    Spec Tryz.prog 208 [v, .func (.func k) #[] caps.toArray] μ fun v μ' => Fresh μ μ' (x.subst f).tm.d v := by
  intro x
  induction x with
  | var n =>
    intro μ v hk hv
    obtain ⟨p, rfl⟩ := Tm.invV hv
    refine Spec.mk Tryz.func208 (by kernel_rfl) ?_
    intro r1 r2
    refine ifd (fun _ => ?_) (fun h => absurd rfl h)
    refine call_plain (hk μ (Mem.Le.refl μ) n) fun v' μ' hle hR => ?_
    simp only [T.subst]
    cases hs : f n with
    | some y =>
      rw [hs] at hR
      obtain ⟨tv, rfl, htv⟩ := hR
      obtain ⟨q, rfl⟩ := Tm.invV htv
      intro r3
      refine if_intro (fun _ => ?_) (fun h => nomatch h)
      refine call_plain (copyTerm_spec y htv) fun v2 μ2 hle2 hR2 => ?_
      obtain ⟨q2, rfl⟩ := Tm.invV hR2.rep
      exact ret_plain (hR2.mono hle (Mem.Le.refl _))
    | none =>
      rw [hs] at hR
      obtain rfl := hR
      intro r3
      refine if_intro (fun h => nomatch h) (fun _ => ?_)
      exact ret_plain (T.leaf_fresh rfl hv)
  | pair a b iha ihb =>
    intro μ v hk hv
    obtain ⟨base', cap', rfl, hsa⟩ := Tm.inv hv
    obtain ⟨ad, ad', p, p', h1, h2, hra, hrb⟩ := T.parts hsa
    refine Spec.mk Tryz.func208 (by kernel_rfl) ?_
    intro r1 r2
    refine ifd (fun h => absurd h (by simp)) (fun _ => ?_)
    refine ifd (fun _ => ?_) (fun h => absurd rfl h)
    refine elem_intro h1 ?_
    refine elem_intro h2 ?_
    refine call_plain (iha hk hra) fun v1 μ1 hle1 hR1 => ?_
    refine call_plain (ihb (fun μ' h => hk μ' (hle1.trans h)) (hrb.mono hle1)) fun v2 μ2 hle2 hR2 => ?_
    obtain ⟨g, k1, k2, k3⟩ := two_fresh (Tm.d_n _) (Tm.d_n _) hle1 hle2 hR1 hR2
    refine call_plain (pair_spec (hR1.rep.mono hle2) hR2.rep k1 k2 k3 (hle1.trans hle2)) fun v3 μ3 hle3 hR3 => ?_
    obtain ⟨q, rfl⟩ := Tm.invV hR3.rep
    exact ret_plain hR3
  | _ =>
    intro μ v hk hv
    obtain ⟨p, rfl⟩ := Tm.invV hv
    refine Spec.mk Tryz.func208 (by kernel_rfl) ?_
    intro r1 r2
    refine ifd (fun h => absurd h (by simp [T.tm, Tm.kind])) (fun _ => ?_)
    refine ifd (fun h => absurd h (by simp [T.tm, Tm.kind])) (fun _ => ?_)
    exact ret_plain (T.leaf_fresh rfl hv)
end
end Go.Vx

/- Contracts: the program's substitutions: sizes, searches, values put in. -/
namespace Go.Vx
open Go.Proofs Classical
section
variable {μ : Mem}
/-- A closure that counts what a variable stands for. -/
def Counts (k : FuncId) (caps : List Value) (μ : Mem) (c : Int → Nat) : Prop := ∀ n, Gives Tryz.prog k (.int .i64 n :: caps) μ (.int .i64 (c n))
def cntOf (f : Int → Option T) (n : Int) : Nat := match f n with | some y => y.size | none => 1
theorem subst_var_size (f : Int → Option T) (n : Int) : ((T.var n).subst f).size = cntOf f n := by
  simp only [T.subst, cntOf]
  cases f n <;> rfl
theorem sizeWith_spec {k : FuncId} {caps : List Value} {f : Int → Option T} (hk : Counts k caps μ (cntOf f)) (hf : ∀ n, cntOf f n ≤ 5000) : ∀ (x : T) {v : Value}, RepV μ x.tm.d v →
    Gives Tryz.prog 206 [v, .func (.func k) #[] caps.toArray] μ (.int .i64 (min (x.subst f).size 5001 : Nat)) := by
  intro x
  induction x with
  | var n =>
    intro v hv
    obtain ⟨p, rfl⟩ := Tm.invV hv
    have := hf n
    refine Spec.mk Tryz.func206 (by kernel_rfl) ?_
    intro r1
    refine ifd (fun _ => ?_) (fun h => absurd rfl h)
    refine call_gives (hk n) (ret_gives ?_ rfl)
    rw [subst_var_size]
    congr 1
    show (if (5001 : Int) < (cntOf f n : Int) then (5001 : Int) else (cntOf f n : Int)) = _
    rw [if_neg (by omega)]
    omega
  | pair a b iha ihb =>
    intro v hv
    obtain ⟨base', cap', rfl, hsa⟩ := Tm.inv hv
    obtain ⟨ad, ad', p, p', h1, h2, hra, hrb⟩ := T.parts hsa
    have hs : ((T.pair a b).subst f).size = 1 + (a.subst f).size + (b.subst f).size := rfl
    refine Spec.mk Tryz.func206 (by kernel_rfl) ?_
    intro r1
    refine ifd (fun h => absurd h (by simp)) (fun _ => ?_)
    refine ifd (fun _ => ?_) (fun h => absurd rfl h)
    refine elem_intro h1 ?_
    refine call_gives (iha hra) ?_
    refine ifd (fun h => ret_gives ?_ rfl) (fun h => ?_)
    · rw [hs]; congr 1; omega
    · refine num64 (by omega) (by omega) ?_
      refine elem_intro h2 ?_
      refine call_gives (ihb hrb) ?_
      refine num64 (by omega) (by omega) (ret_gives ?_ rfl)
      rw [hs]
      congr 1
      split <;> omega
  | _ =>
    intro v hv
    obtain ⟨p, rfl⟩ := Tm.invV hv
    refine Spec.mk Tryz.func206 (by kernel_rfl) ?_
    intro r1
    refine ifd (fun h => absurd h (by simp [T.tm, Tm.kind])) (fun _ => ?_)
    refine ifd (fun h => absurd h (by simp [T.tm, Tm.kind])) (fun _ => ?_)
    exact ret_gives rfl rfl
theorem wrapu64 {n : Int} (h1 : 0 ≤ n) (h2 : n < 18446744073709551616) : IntKind.u64.wrap n = n := by
  have e : IntKind.u64.bits = 64 := rfl
  have e2 : IntKind.u64.signed = false := rfl
  simp only [IntKind.wrap, e, e2, Bool.false_and]
  simp only [show (2 : Int) ^ 64 = 18446744073709551616 from rfl]
  simp; omega
theorem Search_spec {k : FuncId} {caps : List Value} {p : Int → Prop} {n : Nat} (hn : n ≤ 1000000000) (hk : ∀ i : Nat, i < n → Gives Tryz.prog k (.int .i64 i :: caps) μ (.bool (decide (p i)))) :
    Spec Tryz.prog 253 [.int .i64 n, .func (.func k) #[] caps.toArray] μ fun v μ' => (∃ i : Nat, v = .int .i64 i ∧ i ≤ n ∧ (i < n → p i) ∧ ∀ j : Nat, j + 1 = i → ¬ p j) ∧ μ' = μ := by
  refine Spec.mk Tryz.func253 (by kernel_rfl) ?_
  refine loop_intro (fun q : Nat × Nat => q.1 ≤ q.2 ∧ q.2 ≤ n ∧ (q.2 < n → p q.2) ∧ ∀ j : Nat, j + 1 = q.1 → ¬ p j) (fun (i, j) => ⟨[(1, .val (.func (.func k) #[] caps.toArray)), (5, .val (.int .i64 i)), (6, .val (.int .i64 j))], [], 0, μ, Mem.nil⟩) (fun q => q.2 - q.1)
    (0, n) ⟨by simp, by simp, by simp, fun j hj => by simp at hj⟩ (fun (_, _) => ⟨rfl, rfl⟩) ⟨⟨rfl, rfl, rfl, trivial⟩, trivial, rfl, rfl⟩ ?_
  rintro ⟨i, j⟩ ⟨h1, h2, h3, h4⟩
  dsimp only at h1 h2 h3 h4
  refine ifd (fun h => ?_) (fun h => ?_)
  · refine num64 (by omega) (by omega) ?_
    refine num_eq (wrapu64 (by omega) (by omega)) ?_
    refine need_intro (by omega) ?_
    refine num_eq (x := (((i + j) / 2 : Nat) : Int)) ?_ ?_
    · show Int.fdiv ((i : Int) + j) (2 ^ (min (Int.toNat 1) 64)) = _
      rw [show min (Int.toNat 1) 64 = 1 from rfl, show (2 : Int) ^ 1 = 2 from rfl, Int.fdiv_eq_ediv_of_nonneg _ (by omega)]
      omega
    refine num64 (by omega) (by omega) ?_
    refine call_gives (hk ((i + j) / 2) (by omega)) ?_
    refine ifnd (fun hp => ?_) (fun hp => ?_)
    · refine num64 (by omega) (by omega) ⟨((i + j) / 2 + 1, j), ⟨by dsimp only; omega, h2, h3, fun m hm => ?_⟩, by dsimp only; omega, ⟨⟨rfl, rfl, rfl, trivial⟩, trivial, rfl, rfl⟩⟩
      dsimp only at hm
      obtain rfl : m = (i + j) / 2 := by omega
      exact hp
    · exact ⟨(i, (i + j) / 2), ⟨by dsimp only; omega, by dsimp only; omega, fun _ => hp, h4⟩, by dsimp only; omega, ⟨⟨rfl, rfl, rfl, trivial⟩, trivial, rfl, rfl⟩⟩
  · obtain rfl : i = j := by omega
    exact ret_plain ⟨⟨i, rfl, h2, h3, h4⟩, rfl⟩
end
end Go.Vx

/- Contracts: the program's search for a binding. -/
namespace Go.Vx
open Go.Proofs Classical
/-- Variables in order. -/
def Srt (bs : List B) : Prop := ∀ (i j : Nat) b c, i < j → bs[i]? = some b → bs[j]? = some c → b.var < c.var
section
variable {μ : Mem}
theorem B.elem {bs : List B} {base : Option Addr} {n : Nat} (h : Sl μ 5 base n ((bs.map B.bd).map Bd.d)) {i : Nat} {b : B} (hb : bs[i]? = some b) : ∃ ad, ∃ p : Option Addr × Nat, ElemAt μ base n 5 i ad (b.bd.cs p) ∧ RepV μ b.to.tm.d (.agg (b.to.tm.cs p).toArray) := by
  have hb' : (bs.map B.bd)[i]? = some b.bd := by simp [hb]
  obtain ⟨ad, p, h1, h2⟩ := Bd.elem h hb'
  exact ⟨ad, p, h1, Bd.toV h2⟩
def atLeast (bs : List B) (n : Int) (z : Int) : Prop := ∃ b, bs[z.toNat]? = some b ∧ n ≤ b.var
theorem find1_spec {bs : List B} {base : Option Addr} {cap : Nat} {n : Int} {r1 r2 : Nat} {t1 t2 : TypeId} (hsl : Sl μ 5 base bs.length ((bs.map B.bd).map Bd.d)) (h1 : μ r1 = some (.cells #[.slice base bs.length cap] t1 (0, 0))) (h2 : μ r2 = some (.cells #[.int .i64 n] t2 (0, 0))) {i : Nat} (hi : i < bs.length) :
    Gives Tryz.prog 254 [.int .i64 i, .pointer (some ⟨r1, 0, none⟩), .pointer (some ⟨r2, 0, none⟩)] μ (.bool (decide (atLeast bs n i))) := by
  obtain ⟨b, hb⟩ := at_some hi
  obtain ⟨ad, p, hel, _⟩ := B.elem hsl hb
  refine Spec.mk Tryz.func254 (by kernel_rfl) ?_
  refine ext_intro [.slice base bs.length cap] rfl (box_at h1) ?_
  refine elem_intro hel ?_
  refine ext_intro [.int .i64 n] rfl (box_at h2) ?_
  refine ret_gives (isI ?_) rfl
  constructor
  · intro h; exact ⟨b, hb, h⟩
  · rintro ⟨c, hc, h⟩
    have hc : bs[i]? = some c := hc
    rw [hb] at hc; cases hc; exact h
/-- Where a variable is bound. -/
def FindR (bs : List B) (n : Int) (v : Value) : Prop := (∃ (i : Nat) (b : B), v = .int .i64 i ∧ bs[i]? = some b ∧ b.var = n) ∨ (v = .int .i64 (-1) ∧ ∀ b ∈ bs, b.var ≠ n)
theorem find_spec {bs : List B} {base : Option Addr} {cap : Nat} {n : Int} (hs : Srt bs) (hlen : bs.length ≤ 1000000000) (hsl : Sl μ 5 base bs.length ((bs.map B.bd).map Bd.d)) :
    Spec Tryz.prog 173 [.slice base bs.length cap, .int .i64 n] μ fun v μ' => FindR bs n v ∧ μ' = μ := by
  refine Spec.forget (Spec.mk Tryz.func173 (by kernel_rfl) ?_)
  intro r1 r2
  refine call_frz [0, 1] ?_
  intro μ1 hle1 hno1 hat1 μ2 hle2 hno2 hat2
  have hsl2 := (hsl.mono hle1).mono hle2
  have e1 : μ2 r1 = some (.cells #[.slice base bs.length cap] 29 (0, 0)) := hle2 _ _ hat1
  refine call_go (Search_spec (p := atLeast bs n) hlen fun i hi => find1_spec hsl2 e1 hat2 hi) fun v μ3 hle3 hR => ?_
  obtain ⟨⟨i, rfl, g1, g2, g3⟩, rfl⟩ := hR
  have low : ∀ (j : Nat) b, j < i → bs[j]? = some b → b.var < n := fun j b hj hb => by
    obtain ⟨c, hc⟩ := at_some (l := bs) (i := i - 1) (by omega)
    have h4 : c.var < n := by
      rcases Int.lt_or_le c.var n with h | h
      · exact h
      · exact absurd ⟨c, hc, h⟩ (g3 (i - 1) (by omega))
    rcases Nat.lt_or_ge j (i - 1) with h | h
    · have := hs j (i - 1) b c h hb hc; omega
    · obtain rfl : j = i - 1 := by omega
      rw [hb] at hc; cases hc; exact h4
  have none : (∀ b, bs[i]? = some b → b.var ≠ n) → FindR bs n (.int .i64 (-1)) := fun h => .inr ⟨rfl, fun b hb => by
    obtain ⟨j, hj⟩ := List.mem_iff_getElem?.1 hb
    rcases Nat.lt_or_ge j i with h1 | h1
    · have := low j b h1 hj; omega
    · have hjl := (List.getElem?_eq_some_iff.1 hj).1
      obtain ⟨c, hc⟩ := at_some (l := bs) (i := i) (by omega)
      obtain ⟨c', hc', h2⟩ := g2 (by omega)
      have hc' : bs[i]? = some c' := hc'
      rw [hc] at hc'; cases hc'
      have := h c hc
      rcases Nat.eq_or_lt_of_le h1 with h3 | h3
      · subst h3; rw [hj] at hc; cases hc; omega
      · have := hs i j c b h3 hc hj; omega⟩
  refine ext_intro [.slice base bs.length cap] rfl (box_at e1) ?_
  refine ifd (fun h => ?_) (fun h => ?_)
  · obtain ⟨b, hb⟩ := at_some (l := bs) (i := i) (by omega)
    obtain ⟨ad, p, hel, _⟩ := B.elem hsl2 hb
    refine ext_intro [.slice base bs.length cap] rfl (box_at e1) ?_
    refine elem_intro hel ?_
    refine ext_intro [.int .i64 n] rfl (box_at hat2) ?_
    refine ifd (fun h2 => ?_) (fun h2 => ?_)
    · exact ret_plain (.inl ⟨i, b, rfl, hb, h2⟩)
    · exact ret_plain (none fun c hc => by rw [hb] at hc; cases hc; exact h2)
  · exact ret_plain (none fun c hc => absurd (List.getElem?_eq_some_iff.1 hc).1 (by omega))
end
end Go.Vx

/- Contracts: the program's put and Instantiate. -/
namespace Go.Vx
open Go.Proofs Classical
theorem Srt.tail {b : B} {bs : List B} (h : Srt (b :: bs)) : Srt bs := fun i j c d hij hc hd => h (i + 1) (j + 1) c d (by omega) (by simpa using hc) (by simpa using hd)
theorem sub_some : ∀ {bs : List B} (_ : Srt bs) {i : Nat} {b : B} {n : Int}, bs[i]? = some b → b.var = n → sub bs n = some b.to
  | [], _, i, b, n, h, _ => by simp at h
  | c :: bs, hs, 0, b, n, h, e => by
    simp only [List.getElem?_cons_zero, Option.some.injEq] at h
    subst h
    rw [sub, if_pos e]
  | c :: bs, hs, i + 1, b, n, h, e => by
    have := hs 0 (i + 1) c b (by omega) rfl h
    rw [sub, if_neg (by omega)]
    exact sub_some hs.tail (by simpa using h) e
theorem sub_none : ∀ {bs : List B} {n : Int}, (∀ b ∈ bs, b.var ≠ n) → sub bs n = none
  | [], _, _ => rfl
  | c :: bs, n, h => by
    rw [sub, if_neg (h c (by simp))]
    exact sub_none fun b hb => h b (by simp [hb])
theorem sub_ok : ∀ {bs : List B} (_ : ∀ b ∈ bs, b.to.ok) {n : Int} {y : T}, sub bs n = some y → y.ok
  | [], _, n, y, h => by simp [sub] at h
  | c :: bs, hk, n, y, h => by
    rw [sub] at h
    split at h
    · cases h; exact hk c (by simp)
    · exact sub_ok (fun b hb => hk b (by simp [hb])) h
theorem valsOk.srt {l : List Bd} (h : valsOk l) : Srt (l.map Bd.b) := by
  intro i j b c hij hb hc
  simp only [List.getElem?_map, Option.map_eq_some_iff] at hb hc
  obtain ⟨b, hb, rfl⟩ := hb
  obtain ⟨c, hc, rfl⟩ := hc
  show b.var < c.var
  induction j generalizing c with
  | zero => omega
  | succ j ih =>
    have hj : j < l.length := by have := (List.getElem?_eq_some_iff.1 hc).1; omega
    obtain ⟨d, hd⟩ := at_some hj
    have h1 := (h.2 (j + 1) c hc).2.2 j d rfl hd
    rcases Nat.lt_or_ge i j with h2 | h2
    · have := ih h2 d hd; omega
    · obtain rfl : i = j := by omega
      rw [hb] at hd; cases hd; exact h1
section
variable {μ : Mem}
theorem put1_looks {bs : List B} {base : Option Addr} {cap : Nat} {r : Nat} {ty : TypeId} (hs : Srt bs) (hlen : bs.length ≤ 1000000000) (hsl : Sl μ 5 base bs.length ((bs.map B.bd).map Bd.d)) (h : μ r = some (.cells #[.slice base bs.length cap] ty (0, 0))) :
    Looks 179 [.pointer (some ⟨r, 0, none⟩)] μ (sub bs) := fun μ' hle n => by
  have hsl := hsl.mono hle
  have h : μ' r = _ := hle _ _ h
  refine Spec.mk Tryz.func179 (by kernel_rfl) ?_
  intro r1
  refine ext_intro [.slice base bs.length cap] rfl (box_at h) ?_
  refine call_plain (find_spec hs hlen hsl) fun v μ2 hle2 hR => ?_
  obtain ⟨hR, e2⟩ := hR
  obtain rfl := e2.symm
  rcases hR with ⟨i, b, rfl, hb, hn⟩ | ⟨rfl, hno⟩
  · rw [sub_some hs hb hn]
    obtain ⟨ad, p, hel, hto⟩ := B.elem hsl hb
    refine ifd (fun _ => ?_) (fun h => absurd h (by omega))
    refine ext_intro [.slice base bs.length cap] rfl (box_at h) ?_
    refine elem_intro hel ?_
    exact ret_plain ⟨_, rfl, hto⟩
  · rw [sub_none hno]
    refine ifd (fun h => absurd h (by omega)) (fun _ => ?_)
    exact ret_plain rfl
theorem replaced1_counts {k : FuncId} {caps : List Value} {f : Int → Option T} {r : Nat} {ty : TypeId} (hk : Looks k caps μ f) (hf : ∀ n y, f n = some y → y.ok) (h : μ r = some (.cells #[.func (.func k) #[] caps.toArray] ty (0, 0))) :
    Counts 207 [.pointer (some ⟨r, 0, none⟩)] μ (cntOf f) := fun n => by
  refine (Spec.forget (R := fun v => v = .int .i64 (cntOf f n)) (Spec.mk Tryz.func207 (by kernel_rfl) ?_))
  refine ext_intro [.func (.func k) #[] caps.toArray] rfl (box_at h) ?_
  refine call_plain (hk μ (Mem.Le.refl μ) n) fun v μ1 hle1 hR => ?_
  simp only [cntOf]
  cases hs : f n with
  | some y =>
    rw [hs] at hR
    obtain ⟨tv, rfl, htv⟩ := hR
    obtain ⟨q, rfl⟩ := Tm.invV htv
    intro r3
    refine if_intro (fun _ => ?_) (fun h => nomatch h)
    refine call_gives (nodesOf_spec y.tm htv (by decide) (by decide)) ?_
    have hy := (hf n y hs).tm
    rw [Tm.nodes_pos hy.1 (by have := hy.2; omega), T.cnt_tm]
    exact ret_plain rfl
  | none =>
    rw [hs] at hR
    obtain rfl := hR
    intro r3
    refine if_intro (fun h => nomatch h) (fun _ => ?_)
    exact ret_plain rfl
/-- A substituted term, if it is not too big. -/
noncomputable def fit (x : T) : Option T := if x.size ≤ 5000 then some x else none
theorem replaced_spec {k : FuncId} {caps : List Value} {f : Int → Option T} (x : T) {v : Value} (hk : Looks k caps μ f) (hf : ∀ n y, f n = some y → y.ok) (hv : RepV μ x.tm.d v) :
    Spec Tryz.prog 123 [v, .func (.func k) #[] caps.toArray] μ fun v μ' => optV (fun y tv => Fresh μ μ' y.tm.d tv) (fit (x.subst f)) v := by
  obtain ⟨p, rfl⟩ := Tm.invV hv
  have hc : ∀ n, cntOf f n ≤ 5000 := fun n => by
    simp only [cntOf]
    split
    · rename_i y hy
      exact (hf n y hy).2
    · omega
  refine Spec.mk Tryz.func123 (by kernel_rfl) ?_
  intro r1 r2 r3
  refine call_frz [1] ?_
  intro μ1 hle1 hno1 hat1
  have hk1 : Looks k caps μ1 f := fun μ' h => hk μ' (hle1.trans h)
  refine call_go (sizeWith_spec (replaced1_counts hk1 hf hat1) hc x (hv.mono hle1)) fun v μ2 hle2 hR => ?_
  obtain ⟨rfl, e2⟩ := hR
  obtain rfl := e2.symm
  refine ifd (fun h => ?_) (fun h => ?_)
  · rw [fit, if_neg (by omega)]
    exact ret_plain rfl
  · rw [fit, if_pos (by omega)]
    refine ext_intro [.func (.func k) #[] caps.toArray] rfl (box_at hat1) ?_
    refine call_plain (mapVars_spec x hk1 (hv.mono hle1)) fun v2 μ3 hle3 hR3 => ?_
    obtain ⟨q, rfl⟩ := Tm.invV hR3.rep
    exact ret_plain ⟨_, rfl, hR3.mono hle1 (Mem.Le.refl _)⟩
theorem put_spec {bs : List B} {base : Option Addr} {cap : Nat} (x : T) {v : Value} (hs : Srt bs) (hlen : bs.length ≤ 1000000000) (hk : ∀ b ∈ bs, b.to.ok) (hsl : Sl μ 5 base bs.length ((bs.map B.bd).map Bd.d)) (hv : RepV μ x.tm.d v) :
    Spec Tryz.prog 91 [.slice base bs.length cap, v] μ fun v μ' => optV (fun y tv => Fresh μ μ' y.tm.d tv) (fit (x.subst (sub bs))) v := by
  obtain ⟨p, rfl⟩ := Tm.invV hv
  refine Spec.mk Tryz.func91 (by kernel_rfl) ?_
  intro r1 r2 r3
  refine call_frz [0] ?_
  intro μ1 hle1 hno1 hat1
  refine call_go (replaced_spec x (put1_looks hs hlen (hsl.mono hle1) hat1) (fun n y h => sub_ok hk h) (hv.mono hle1)) fun v μ2 hle2 hR => ?_
  cases hf : fit (x.subst (sub bs)) with
  | some y =>
    rw [hf] at hR
    obtain ⟨tv, rfl, htv⟩ := hR
    obtain ⟨q, rfl⟩ := Tm.invV htv.rep
    exact ret_plain ⟨_, rfl, htv.mono hle1 (Mem.Le.refl _)⟩
  | none =>
    rw [hf] at hR
    obtain rfl := hR
    exact ret_plain rfl
end
end Go.Vx

/- Contracts: terms compared. -/
namespace Go.Vx
open Go.Proofs Classical
def sgn (b : Bool) : Int := if b then -1 else 1
/-- The comparison of two terms' own fields, then the rest. -/
noncomputable def hdCmp (x y : Tm) (rest : Int) : Int :=
  if x.kind ≠ y.kind then sgn (decide (x.kind < y.kind)) else if x.num ≠ y.num then sgn (decide (x.num < y.num)) else if x.name ≠ y.name then sgn (Op.bytesLess x.name.data.toList y.name.data.toList) else rest
noncomputable def T.cmp : T → T → Int
  | .pair a b, .pair c d => if a.cmp c = 0 then b.cmp d else a.cmp c
  | .pair a b, .nil => hdCmp (T.pair a b).tm T.nil.tm 0
  | .pair a b, .var n => hdCmp (T.pair a b).tm (T.var n).tm 0
  | .pair a b, .sym n => hdCmp (T.pair a b).tm (T.sym n).tm 0
  | .pair a b, .num n => hdCmp (T.pair a b).tm (T.num n).tm 0
  | .nil, y => hdCmp T.nil.tm y.tm 0
  | .var n, y => hdCmp (T.var n).tm y.tm 0
  | .sym n, y => hdCmp (T.sym n).tm y.tm 0
  | .num n, y => hdCmp (T.num n).tm y.tm 0
theorem sgn_ne (b : Bool) : sgn b ≠ 0 := by cases b <;> simp [sgn]
theorem hd2 {x y : Tm} {r : Int} (h1 : x.kind = y.kind) (h : ¬ x.num = y.num) : hdCmp x y r = sgn (decide (x.num < y.num)) := by rw [hdCmp, if_neg (fun k => k h1), if_pos h]
section
variable {μ : Mem}
noncomputable def T.rest : T → T → Int
  | .pair a b, .pair c d => if a.cmp c = 0 then b.cmp d else a.cmp c
  | _, _ => 0
theorem T.kind4 {x : T} (h : x.tm.kind = 4) : ∃ a b, x = .pair a b := by
  cases x <;> simp_all [T.tm, Tm.kind]
theorem T.arg {μ : Mem} {x : T} {base : Option Addr} (h : Sl μ 4 base x.args.length ((x.args.map T.tm).map Tm.d)) {i : Nat} {y : T} (hy : x.args[i]? = some y) : ∃ ad, ∃ p : Option Addr × Nat, ElemAt μ base x.args.length 4 i ad (y.tm.cs p) ∧ RepV μ y.tm.d (.agg (y.tm.cs p).toArray) :=
  Tm.elem h (by simp [hy])
end
end Go.Vx

/- Plain: parts of a row changed about; sorted parts merged. -/
namespace Go.Vx
open Go.Sort
section
variable {α : Type} {lt : α → α → Bool}
end
section
variable {α : Type} [Inhabited α] {lt : α → α → Bool} {d c R : Array α}
/-- [a, a + n) and [b, b + n) changed about. -/
structure Sw (a b n : Nat) (d d' : Array α) : Prop where
  size : d'.size = d.size
  fst : ∀ t, t < n → d'[a + t]! = d[b + t]!
  snd : ∀ t, t < n → d'[b + t]! = d[a + t]!
  out : ∀ k, k < a ∨ a + n ≤ k → k < b ∨ b + n ≤ k → d'[k]! = d[k]!
theorem Sw.nil (a b : Nat) (d : Array α) : Sw a b 0 d d := ⟨rfl, fun t h => by omega, fun t h => by omega, fun _ _ _ => rfl⟩
theorem Sw.step {a b n : Nat} (h : Sw a b n d c) (h1 : a + n < b) (h2 : b + n < d.size) : Sw a b (n + 1) d (swp c (a + n) (b + n)) := by
  have g : ∀ k, (swp c (a + n) (b + n))[k]! = if k = b + n then c[a + n]! else if k = a + n then c[b + n]! else c[k]! := fun k => swp_get c (by rw [h.size]; omega) (by rw [h.size]; omega) k
  refine ⟨by rw [Go.Sort.swp_size, h.size], fun t ht => ?_, fun t ht => ?_, fun k hk1 hk2 => ?_⟩
  · rw [g, if_neg (by omega)]
    by_cases e : t = n
    · subst e; rw [if_pos rfl, h.out _ (by omega) (by omega)]
    · rw [if_neg (by omega), h.fst t (by omega)]
  · rw [g]
    by_cases e : t = n
    · subst e; rw [if_pos rfl, h.out _ (by omega) (by omega)]
    · rw [if_neg (by omega), if_neg (by omega), h.snd t (by omega)]
  · rw [g, if_neg (by omega), if_neg (by omega), h.out k (by omega) (by omega)]
/-- [a, m) and [m, b) changed about. -/
structure Rot (a m b : Nat) (d d' : Array α) : Prop where
  size : d'.size = d.size
  out : ∀ k, k < a ∨ b ≤ k → d'[k]! = d[k]!
  lo : ∀ t, t < b - m → d'[a + t]! = d[m + t]!
  hi : ∀ t, t < m - a → d'[a + (b - m) + t]! = d[a + t]!
theorem Rot.same {m i : Nat} (hi : i ≤ m) (s : Sw (m - i) m i d R) : Rot (m - i) m (m + i) d R where
  size := s.size
  out k hk := s.out k (by omega) (by omega)
  lo t ht := s.fst t (by omega)
  hi t ht := by rw [show m - i + (m + i - m) + t = m + t by omega]; exact s.snd t (by omega)
section
variable {s m e : Nat}
theorem SortedIn.sub {a b a' b' : Nat} (h : SortedIn lt a b d) (h1 : a ≤ a') (h2 : b' ≤ b) : SortedIn lt a' b' d := fun i j hi hij hj => h i j (by omega) hij (by omega)
/-- What a change about of [s, m) and [m, e) leaves: left and right of q = s + (e - m). -/
structure Cut (lt : α → α → Bool) (a s m e b : Nat) (d : Array α) : Prop where
  sa : a ≤ s
  sm : s ≤ m
  me : m ≤ e
  eb : e ≤ b
  lo : ∀ x y, a ≤ x → x < s → e ≤ y → y < b → lt d[y]! d[x]! = false
  hi : ∀ x y, s ≤ x → x < m → m ≤ y → y < e → lt d[x]! d[y]! = false
end
end
end Go.Vx

/- Plain: terms and substitutions in order. -/
namespace Go.Vx
open Go.Proofs Classical
/-- A comparison in three ways that makes a total order. -/
structure Ord3 {α : Type} (c : α → α → Int) : Prop where
  zero : ∀ x y, c x y = 0 ↔ x = y
  anti : ∀ x y, c x y < 0 ↔ 0 < c y x
  trans : ∀ x y z, c x y < 0 → c y z < 0 → c x z < 0
def lexI (p q : Int) : Int := if p = 0 then q else p
theorem lexI_zero {p q : Int} : lexI p q = 0 ↔ p = 0 ∧ q = 0 := by unfold lexI; split <;> omega
theorem lexI_anti {p q p' q' : Int} (h1 : p < 0 ↔ 0 < p') (h2 : p' < 0 ↔ 0 < p) (h3 : p = 0 → (q < 0 ↔ 0 < q')) : lexI p q < 0 ↔ 0 < lexI p' q' := by
  unfold lexI
  split
  · rename_i h
    rw [if_pos (by omega)]; exact h3 h
  · rw [if_neg (by omega)]; exact h1
theorem lexI_trans {p1 q1 p2 q2 p3 q3 : Int} (t : p1 < 0 → p2 < 0 → p3 < 0) (e1 : p1 = 0 → p3 = p2) (e2 : p2 = 0 → p3 = p1) (r : p1 = 0 → p2 = 0 → q1 < 0 → q2 < 0 → q3 < 0) : lexI p1 q1 < 0 → lexI p2 q2 < 0 → lexI p3 q3 < 0 := by
  unfold lexI
  intro h1 h2
  by_cases k1 : p1 = 0
  · rw [if_pos k1] at h1
    have := e1 k1
    by_cases k2 : p2 = 0
    · rw [if_pos k2] at h2
      rw [if_pos (by omega)]; exact r k1 k2 h1 h2
    · rw [if_neg k2] at h2
      rw [if_neg (by omega)]; omega
  · rw [if_neg k1] at h1
    by_cases k2 : p2 = 0
    · have := e2 k2
      rw [if_neg (by omega)]; omega
    · rw [if_neg k2] at h2
      have := t h1 h2
      rw [if_neg (by omega)]; exact this
/-- The first fields, then the rest. -/
theorem Ord3.lex_trans {α : Type} {c : α → α → Int} (h : Ord3 c) {x y z : α} {q1 q2 q3 : Int} (r : x = y → y = z → q1 < 0 → q2 < 0 → q3 < 0) : lexI (c x y) q1 < 0 → lexI (c y z) q2 < 0 → lexI (c x z) q3 < 0 :=
  lexI_trans (h.trans x y z) (fun e => by rw [(h.zero _ _).1 e]) (fun e => by rw [(h.zero _ _).1 e]) fun e1 e2 => r ((h.zero _ _).1 e1) ((h.zero _ _).1 e2)
theorem Ord3.lex_anti {α : Type} {c : α → α → Int} (h : Ord3 c) {x y : α} {q q' : Int} (r : x = y → (q < 0 ↔ 0 < q')) : lexI (c x y) q < 0 ↔ 0 < lexI (c y x) q' :=
  lexI_anti (h.anti x y) (h.anti y x) fun e => r ((h.zero _ _).1 e)
def cInt (a b : Int) : Int := if a = b then 0 else sgn (decide (a < b))
theorem cInt_ord : Ord3 cInt where
  zero x y := by
    unfold cInt sgn
    by_cases h : x = y
    · simp [h]
    · by_cases g : x < y <;> simp [h, g]
  anti x y := by
    unfold cInt sgn
    by_cases h : x = y
    · simp [h]
    · rw [if_neg h, if_neg (Ne.symm h)]
      by_cases g : x < y
      · have g2 : ¬ y < x := by omega
        simp [g, g2]
      · have g2 : y < x := by omega
        simp [g, g2]
  trans x y z := by
    unfold cInt sgn
    by_cases h : x = y <;> by_cases h2 : y = z <;> by_cases h3 : x = z <;> by_cases g : x < y <;> by_cases g2 : y < z <;> by_cases g3 : x < z <;> simp [h, h2, h3, g, g2, g3] <;> omega
theorem bl_irrefl : ∀ l : List UInt8, Op.bytesLess l l = false
  | [] => rfl
  | a :: l => by rw [Op.bytesLess]; simp [bl_irrefl l]
theorem bl_trans : ∀ x y z : List UInt8, Op.bytesLess x y = true → Op.bytesLess y z = true → Op.bytesLess x z = true
  | x, y, [], h1, h2 => by simp [Op.bytesLess] at h2
  | x, [], c :: z, h1, h2 => by cases x <;> simp [Op.bytesLess] at h1
  | [], b :: y, c :: z, h1, h2 => rfl
  | a :: x, b :: y, c :: z, h1, h2 => by
    simp only [Op.bytesLess, Bool.or_eq_true, decide_eq_true_eq, Bool.and_eq_true, beq_iff_eq] at h1 h2 ⊢
    rcases h1 with h1 | ⟨rfl, h1⟩
    · rcases h2 with h2 | ⟨rfl, h2⟩
      · exact .inl (UInt8.lt_trans h1 h2)
      · exact .inl h1
    · rcases h2 with h2 | ⟨rfl, h2⟩
      · exact .inl h2
      · exact .inr ⟨rfl, bl_trans x y z h1 h2⟩
theorem bl_other {x y : List UInt8} (h : x ≠ y) : Op.bytesLess y x = !Op.bytesLess x y := by
  rw [← bytesLess_total x y]
  have : (x == y) = false := by simpa using h
  rw [this, Bool.or_false]
theorem bytes_ne {x y : ByteArray} (h : ¬ x = y) : x.data.toList ≠ y.data.toList := fun k => h (by
  cases x; cases y
  simp only [ByteArray.mk.injEq]
  exact Array.ext' k)
noncomputable def cName (a b : ByteArray) : Int := if a = b then 0 else sgn (Op.bytesLess a.data.toList b.data.toList)
theorem cName_ord : Ord3 cName where
  zero x y := by
    unfold cName
    by_cases h : x = y
    · simp [h]
    · rw [if_neg h]; exact ⟨fun k => absurd k (sgn_ne _), fun k => absurd k h⟩
  anti x y := by
    unfold cName
    by_cases h : x = y
    · simp [h]
    · rw [if_neg h, if_neg (Ne.symm h), bl_other (bytes_ne h)]
      cases Op.bytesLess x.data.toList y.data.toList <;> simp [sgn]
  trans x y z := by
    unfold cName
    intro h1 h2
    split at h1
    · omega
    split at h2
    · omega
    have k1 : Op.bytesLess x.data.toList y.data.toList = true := by
      cases e : Op.bytesLess x.data.toList y.data.toList with
      | true => rfl
      | false => rw [e] at h1; simp [sgn] at h1
    have k2 : Op.bytesLess y.data.toList z.data.toList = true := by
      cases e : Op.bytesLess y.data.toList z.data.toList with
      | true => rfl
      | false => rw [e] at h2; simp [sgn] at h2
    have k3 := bl_trans _ _ _ k1 k2
    have k4 : ¬ x = z := fun e => by
      rw [e, bl_irrefl] at k3; exact absurd k3 (by decide)
    rw [if_neg k4, k3]
    decide
noncomputable def B.cmp (x y : B) : Int := lexI (cInt x.var y.var) (x.to.cmp y.to)
/-- A total order as sorting wants it. -/
theorem Ord3.swo {α : Type} {c : α → α → Int} (h : Ord3 c) : Go.Sort.SWO fun x y => decide (c x y < 0) where
  irrefl x := by have := (h.zero x x).2 rfl; simp; omega
  trans x y z h1 h2 := by
    simp only [decide_eq_true_eq] at *
    exact h.trans _ _ _ h1 h2
  ntrans x y z h1 h2 := by
    simp only [decide_eq_false_iff_not] at *
    intro h3
    by_cases e : x = y
    · subst e; exact h2 h3
    · by_cases e2 : y = z
      · subst e2; exact h1 h3
      · have a1 := h.anti x y; have a2 := h.anti y x; have z1 := h.zero x y; have z2 := h.zero y x
        have b1 := h.anti y z; have b2 := h.anti z y; have w1 := h.zero y z; have w2 := h.zero z y
        have p1 : c x y ≠ 0 := fun k => e (z1.1 k)
        have p2 : c y z ≠ 0 := fun k => e2 (w1.1 k)
        have q1 : c y x < 0 := a2.2 (by omega)
        have q2 : c z y < 0 := b2.2 (by omega)
        have q3 := h.trans _ _ _ q2 q1
        have a3 := h.anti x z
        omega
end Go.Vx

/- Owned rows, maps of numbers, results that grow. -/
namespace Go.Vx
open Go.Proofs Classical
section
variable {P : Program} {f : FuncId} {args : List Value} {μ h H : Mem}
theorem Mem.set_at (m : Mem) (r : Nat) (o : Obj) : (m.set r o) r = some o := by rw [Mem.set_get, if_pos rfl]
theorem Mem.set_ne {m : Mem} {b r : Nat} {o : Obj} (h : b ≠ r) : (m.set r o) b = m b := by rw [Mem.set_get, if_neg h]
theorem ne_of_obj {a b : Nat} {x y : Obj} (h1 : h a = some x) (h2 : h b = some y) (hne : x ≠ y) : a ≠ b := fun e => by
  subst e; rw [h1] at h2; cases h2; exact hne rfl
theorem ne_of_none {a b : Nat} {x : Obj} (h1 : h a = some x) (h2 : h b = none) : a ≠ b := fun e => by
  subst e; rw [h1] at h2; cases h2
theorem Apart.set {r : Nat} {o : Obj} (k : Apart μ h) (hr : μ r = none) : Apart μ (h.set r o) := fun b hb => by
  by_cases e : b = r
  · subst e; exact absurd hr hb
  · rw [Mem.set_ne e]; exact k b hb
/-! ### Rows -/
theorem RowO.set_ne {r cap b : Nat} {ty : TypeId} {es : Nat} {xs : List Value} {o : Obj} (k : RowO h r cap ty es xs) (hb : r ≠ b) : RowO (h.set b o) r cap ty es xs := by
  obtain ⟨cs, h1, h2⟩ := k
  exact ⟨cs, by rw [Mem.set_ne hb]; exact h1, h2⟩
theorem RowO.rowAt {r cap : Nat} {ty : TypeId} {es : Nat} {xs : List Value} (k : RowO h r cap ty es xs) (hl : h.Le μ) : RowAt μ (some r) cap es xs := by
  obtain ⟨cs, h1, h2, h3, h4, h5, h6⟩ := k
  exact ⟨h2, h4, cs.toArray, ty, hl _ _ h1, by simpa using h5, by simpa using h6⟩
theorem RowO.len {r cap : Nat} {ty : TypeId} {es : Nat} {xs : List Value} (k : RowO h r cap ty es xs) : xs.length ≤ maxLen := by
  obtain ⟨cs, h1, h2, h3, _⟩ := k
  exact Nat.le_trans h2 h3
theorem RowO.rep {r cap : Nat} {ty : TypeId} {es : Nat} {xs : List Value} {ds : List D} (k : RowO h r cap ty es xs) (hl : h.Le μ) (hr : Rows μ es ds xs) : RepV μ (.sl es ds) (.slice (some ⟨r, 0, none⟩) xs.length cap) :=
  Rows.sl (k.rowAt hl) hr k.len
/-! ### Maps of numbers -/
def IntKey (v : Value) : Prop := ∃ n, v = .int .i64 n
theorem MapOk.weaken {ok ok' : Value → Prop} {l : List (Value × Value)} (k : MapOk ok l) (hk : ∀ v, ok v → ok' v) : MapOk ok' l := ⟨fun p hp => hk _ (k.keys p hp), k.nodup⟩
theorem MapOk.int {l : List (Value × Value)} (k : MapOk IntKey l) {n : Int} (v : Value) : MapOk IntKey (mset l (.int .i64 n) v) := k.set ⟨n, rfl⟩ v
/-! ### Results that grow -/
/-- Elements whose memory is new. -/
def Grown (es : Nat) (μ μ' : Mem) (ds : List D) (ys : List Value) : Prop := ∃ g, OwnRows es ds ys g ∧ g.Le μ' ∧ ∀ b, g b ≠ none → μ b = none
theorem Grown.nil (es : Nat) (μ μ' : Mem) : Grown es μ μ' [] [] := ⟨Mem.nil, OwnRows.nil es, (fun _ _ h => nomatch h), fun _ h => absurd rfl h⟩
theorem Grown.snoc {es : Nat} {μ μ' μ'' : Mem} {ds : List D} {ys : List Value} {d : D} {v : Value} (k : Grown es μ μ' ds ys) (h0 : μ.Le μ') (hv : Fresh μ' μ'' d v) (h1 : μ'.Le μ'') (hn : d.n = es) : Grown es μ μ'' (ds ++ [d]) (ys ++ [v]) := by
  obtain ⟨g, a, b, c⟩ := k
  obtain ⟨g', a', b', c'⟩ := hv
  refine ⟨g.join g', a.snoc a' hn (fresh_apart b c'), join_le (b.trans h1) b', fun x hx => ?_⟩
  rcases join_ne hx with h | h
  · exact c x h
  · have h3 := c' x h
    cases h4 : μ x with
    | none => rfl
    | some o => rw [h0 x o h4] at h3; cases h3
theorem Grown.mono {es : Nat} {μ μ' μ'' : Mem} {ds : List D} {ys : List Value} (k : Grown es μ μ' ds ys) (h : μ'.Le μ'') : Grown es μ μ'' ds ys := by
  obtain ⟨g, a, b, c⟩ := k
  exact ⟨g, a, b.trans h, c⟩
theorem Grown.len {es : Nat} {μ μ' : Mem} {ds : List D} {ys : List Value} (k : Grown es μ μ' ds ys) : ds.length = ys.length := by
  obtain ⟨g, a, _⟩ := k
  exact a.len
theorem Grown.fresh {es : Nat} {μ μ1 μ' : Mem} {b : Option Nat} {cap : Nat} {ds : List D} {ys : List Value} (k : Grown es μ μ1 ds ys) (h0 : μ.Le μ1) (h1 : μ1.Le μ') (hb : ∀ r, b = some r → μ1 r = none) (hr : RowAt μ' b cap es ys) (hm : ys.length ≤ maxLen) :
    Fresh μ μ' (.sl es ds) (.slice (b.map fun r => ⟨r, 0, none⟩) ys.length cap) := by
  obtain ⟨g, a, b', c⟩ := k
  exact Fresh.ofRow a b' c h0 h1 hb hr hm
/-! ### Owned memory lent -/
variable {dr : Bool} {s : St} {K : Value → St → Prop}
end
section
variable {μ : Mem}
/-- Variables visited; what the closure owns is told by a relation. -/
theorem eachVar_rel {S : Type} (J : S → Mem → Prop) (step : S → Int → S) (Q : S → Int → Prop) {k : FuncId} {caps : List Value}
    (hc : ∀ s h n, Q s n → J s h → SpecH Tryz.prog k (.int .i64 n :: caps) μ h fun r μ' h' => r = .tuple #[] ∧ μ' = μ ∧ J (step s n) h') :
    ∀ (x : T) {v : Value} (s : S) (h : Mem), RepV μ x.tm.d v → (∀ pre n post, x.vars = pre ++ n :: post → Q (pre.foldl step s) n) → J s h → SpecH Tryz.prog 93 [v, .func (.func k) #[] caps.toArray] μ h fun r μ' h' => r = .tuple #[] ∧ μ' = μ ∧ J (x.vars.foldl step s) h'
  | .var n, v, s, h, hv, hq, hj => by
    obtain ⟨base, cap, rfl, hsl⟩ := Tm.inv hv
    refine SpecH.mk [] Tryz.func93 (by kernel_rfl) ?_
    intro r
    refine ifd (fun _ => ?_) (fun h => absurd rfl h)
    refine call_own (hc s h n (hq [] n [] rfl) hj) fun v μ' h' hle hap hR => ?_
    obtain ⟨rfl, e2, hj'⟩ := hR
    obtain rfl := e2.symm
    refine ifd (fun h => absurd h (by decide)) (fun _ => ?_)
    exact ret_plain ⟨rfl, rfl, hj'⟩
  | .nil, v, s, h, hv, hq, hj => by
    obtain ⟨base, cap, rfl, hsl⟩ := Tm.inv hv
    refine SpecH.mk [] Tryz.func93 (by kernel_rfl) ?_
    intro r
    refine ifd (fun h => absurd h (by decide)) (fun _ => ?_)
    refine ifd (fun h => absurd h (by decide)) (fun _ => ?_)
    exact ret_plain ⟨rfl, rfl, hj⟩
  | .sym _, v, s, h, hv, hq, hj => by
    obtain ⟨base, cap, rfl, hsl⟩ := Tm.inv hv
    refine SpecH.mk [] Tryz.func93 (by kernel_rfl) ?_
    intro r
    refine ifd (fun h => absurd h (by decide)) (fun _ => ?_)
    refine ifd (fun h => absurd h (by decide)) (fun _ => ?_)
    exact ret_plain ⟨rfl, rfl, hj⟩
  | .num _, v, s, h, hv, hq, hj => by
    obtain ⟨base, cap, rfl, hsl⟩ := Tm.inv hv
    refine SpecH.mk [] Tryz.func93 (by kernel_rfl) ?_
    intro r
    refine ifd (fun h => absurd h (by decide)) (fun _ => ?_)
    refine ifd (fun h => absurd h (by decide)) (fun _ => ?_)
    exact ret_plain ⟨rfl, rfl, hj⟩
  | .pair a b, v, s, h, hv, hq, hj => by
    obtain ⟨base, cap, rfl, hsl⟩ := Tm.inv hv
    obtain ⟨ad, ad', p, p', h1, h2, hra, hrb⟩ := T.parts hsl
    refine SpecH.mk [] Tryz.func93 (by kernel_rfl) ?_
    intro r
    refine ifd (fun h => absurd h (by decide)) (fun _ => ?_)
    refine ifd (fun _ => ?_) (fun h => absurd rfl h)
    refine elem_intro h1 (call_own (eachVar_rel J step Q hc a s h hra (fun pre n post e => hq pre n (post ++ b.vars) (by simp [T.vars, e])) hj) fun v μ' h' hle hap hR => ?_)
    obtain ⟨rfl, e2, hj'⟩ := hR
    obtain rfl := e2.symm
    refine elem_intro h2 (call_own (eachVar_rel J step Q hc b _ h' hrb (fun pre n post e => by
      have := hq (a.vars ++ pre) n post (by simp [T.vars, e])
      rwa [List.foldl_append] at this) hj') fun v μ' h' hle hap hR => ?_)
    obtain ⟨rfl, e2, hj'⟩ := hR
    obtain rfl := e2.symm
    exact ret_plain ⟨rfl, rfl, by simpa [T.vars, List.foldl_append] using hj'⟩
end
end Go.Vx

/- Contracts: bindings inserted; names by number; the reference's canonical terms. -/
namespace Go.Vx
open Go.Proofs Classical
section
variable {μ : Mem}
theorem Rep.val : ∀ {d : D} {c : List Value}, Rep μ d c → ∃ v, RepV μ d v ∧ vcells v = c
  | .st fs, c, h => ⟨.agg c.toArray, ⟨c, rfl, h⟩, by simp [vcells]⟩
  | .i n, c, h => by
    have h2 : c = [.int .i64 n] := h
    subst h2; exact ⟨_, h, rfl⟩
  | .b x, c, h => by
    have h2 : c = [.bool x] := h
    subst h2; exact ⟨_, h, rfl⟩
  | .s x, c, h => by
    have h2 : c = [.string x] := h
    subst h2; exact ⟨_, h, rfl⟩
  | .sl es xs, c, h => by
    obtain ⟨base, cap, h1, h2⟩ := h
    subst h1
    exact ⟨_, ⟨base, cap, rfl, h2⟩, rfl⟩
theorem RepS.rows {es : Nat} : ∀ {l : List D} {flat : List Value}, RepS μ l flat → (∀ x ∈ l, x.n = es) → ∃ vs, Rows μ es l vs ∧ vs.flatMap vcells = flat
  | [], flat, h, _ => by
    have h : flat = [] := h
    subst h; exact ⟨[], .nil, rfl⟩
  | d :: l, flat, h, hn => by
    obtain ⟨c1, c2, rfl, h1, h2⟩ := h
    obtain ⟨v, hv, rfl⟩ := Rep.val h1
    obtain ⟨vs, hr, rfl⟩ := RepS.rows h2 fun x hx => hn x (by simp [hx])
    exact ⟨v :: vs, .cons hv (hn d (by simp)) hr, by simp⟩
theorem Rows.take {es : Nat} : ∀ {ds : List D} {vs : List Value} (k : Nat), Rows μ es ds vs → Rows μ es (ds.take k) (vs.take k)
  | _, _, 0, _ => by simpa using Rows.nil
  | _, _, k + 1, .nil => by simpa using Rows.nil
  | _, _, k + 1, .cons h hn r => by simpa using Rows.cons h hn (r.take k)
theorem Rows.drop {es : Nat} : ∀ {ds : List D} {vs : List Value} (k : Nat), Rows μ es ds vs → Rows μ es (ds.drop k) (vs.drop k)
  | _, _, 0, h => by simpa using h
  | _, _, k + 1, .nil => by simpa using Rows.nil
  | _, _, k + 1, .cons h hn r => by simpa using r.drop k
theorem Rows.size {es : Nat} : ∀ {ds : List D} {vs : List Value}, Rows μ es ds vs → ∀ v ∈ vs, (vcells v).length = es ∧ ∀ u ∈ vcells v, u.oneCell' = true
  | _, _, .nil, v, hv => by simp at hv
  | _, _, .cons h hn r, v, hv => by
    rcases List.mem_cons.1 hv with rfl | hv
    · exact ⟨by rw [Rep.len _ _ h.cells]; exact hn, Rep.one _ _ h.cells⟩
    · exact r.size v hv
/-- A slice's elements as a row that an append may read. -/
theorem Rep.src {es n cap : Nat} {base : Option Addr} {ds : List D} (h : RepV μ (.sl es ds) (.slice base n cap)) :
    ∃ vs, Rows μ es ds vs ∧ vs.length = n ∧ n ≤ cap ∧ ∀ a b, a ≤ b → b ≤ n → SrcAt μ (if cap = a then base else base.map (·.add (a * es))) (b - a) es ((vs.drop a).take (b - a)) := by
  have h' : Rep μ (.sl es ds) [.slice base n cap] := h
  have hcap := Rep.lens h'
  obtain ⟨b0, c0, h1, h2, h3, h4⟩ := h'
  simp only [List.cons.injEq, and_true] at h1
  obtain ⟨rfl, rfl, rfl⟩ := Value.slice.inj h1
  have : ∃ vs, Rows μ es ds vs ∧ (ds = [] ∨ ∃ a0, base = some a0 ∧ CellsAt μ a0 (vs.flatMap vcells)) := by
    rcases h4 with rfl | ⟨a0, flat, g1, g2, g3⟩
    · exact ⟨[], .nil, .inl rfl⟩
    · obtain ⟨vs, hr, rfl⟩ := RepS.rows g3 h3
      exact ⟨vs, hr, .inr ⟨a0, g1, g2⟩⟩
  obtain ⟨vs, hr, hc⟩ := this
  have hlen := hr.len
  refine ⟨vs, hr, hlen.symm, hcap, fun a b hab hb => ⟨by simp; omega, fun y hy => hr.size y (List.mem_of_mem_drop (List.mem_of_mem_take hy)), ?_⟩⟩
  rcases Nat.eq_or_lt_of_le hab with e | hlt
  · exact .inl (by omega)
  · right
    rcases hc with e | ⟨a0, e, hcell⟩
    · subst e; simp at hb; omega
    · subst e
      refine ⟨a0.add (a * es), by rw [if_neg (by omega)]; rfl, fun j v hj => ?_⟩
      rw [add_add]
      refine hcell _ _ ?_
      have e1 : vs.flatMap vcells = (vs.take a).flatMap vcells ++ (((vs.drop a).take (b - a)).flatMap vcells ++ ((vs.drop a).drop (b - a)).flatMap vcells) := by
        rw [← List.flatMap_append, List.take_append_drop, ← List.flatMap_append, List.take_append_drop]
      have e2 : ((vs.take a).flatMap vcells).length = a * es := by
        rw [flat_len (es := es) (vs.take a) fun y hy => (hr.size y (List.mem_of_mem_take hy)).1]
        congr 1; simp; omega
      rw [e1, List.getElem?_append_right (by omega), e2, Nat.add_sub_cancel_left, List.getElem?_append_left (List.getElem?_eq_some_iff.1 hj).1]
      exact hj
/-! ### Insertion -/
def insAt {α : Type} (l : List α) (x : α) (k : Nat) : List α := l.take k ++ ([x] ++ l.drop k)
theorem insAt_mem {α : Type} (l : List α) (x y : α) (k : Nat) : y ∈ insAt l x k ↔ y = x ∨ y ∈ l := by
  have h2 : y ∈ l ↔ y ∈ l.take k ∨ y ∈ l.drop k := by rw [← List.mem_append, List.take_append_drop]
  simp only [insAt, List.mem_append, List.mem_singleton, h2]
  constructor
  · rintro (h | h | h) <;> simp [h]
  · rintro (h | h | h) <;> simp [h]
theorem insAt_length {α : Type} (l : List α) (x : α) (k : Nat) : (insAt l x k).length = l.length + 1 := by
  have := congrArg List.length (List.take_append_drop k l)
  simp only [insAt, List.length_append, List.length_singleton] at *
  omega
/-! ### Names by number -/
/-- Numbers of variables lie in a range. -/
theorem T.vars_range : ∀ {x : T}, x.good → ∀ n ∈ x.vars, 0 ≤ n ∧ n ≤ 100000
  | .var n, h, m, hm => by
    simp only [T.vars, List.mem_singleton] at hm
    subst hm; exact h
  | .pair a b, h, m, hm => by
    simp only [T.vars, List.mem_append] at hm
    exact hm.elim (T.vars_range h.1 m) (T.vars_range h.2 m)
  | .nil, _, m, hm => by simp [T.vars] at hm
  | .sym _, _, m, hm => by simp [T.vars] at hm
  | .num _, _, m, hm => by simp [T.vars] at hm
theorem nodup_range {N : Nat} : ∀ {l : List Int}, l.Nodup → (∀ n ∈ l, 0 ≤ n ∧ n < N) → l.length ≤ N := by
  induction N with
  | zero =>
    intro l _ h
    cases l with
    | nil => simp
    | cons a l => have := h a (by simp); omega
  | succ N ih =>
    intro l hn h
    have h1 := ih (l := l.erase (N : Int)) (hn.erase _) fun n hm => by
      rw [hn.mem_erase_iff] at hm
      have := h n hm.2
      have h2 : n ≠ (N : Int) := hm.1
      omega
    have h2 : l.length ≤ (l.erase (N : Int)).length + 1 := by
      rw [List.length_erase]; split <;> omega
    omega
/-! ### Canonical terms -/
end
end Go.Vx

/- Plain: lists in strict order. -/
namespace Go.Vx
open Go.Proofs Classical
section
variable {α : Type} {c : α → α → Int}
def Asc3 (c : α → α → Int) (l : List α) : Prop := l.Pairwise fun a b => c a b < 0
theorem Ord3.irrefl (h : Ord3 c) (x : α) : ¬ c x x < 0 := by have := (h.zero x x).2 rfl; omega
theorem Ord3.ge_pos (h : Ord3 c) {x y : α} (h1 : ¬ c x y < 0) (h2 : c x y ≠ 0) : c y x < 0 := (h.anti y x).2 (by omega)
theorem Asc3.nodup (h : Ord3 c) {l : List α} (hl : Asc3 c l) : l.Nodup := hl.imp fun {a b} k e => by subst e; exact h.irrefl _ k
theorem Asc3.uniq (h : Ord3 c) {l m : List α} (hl : Asc3 c l) (hm : Asc3 c m) (e : ∀ x, x ∈ l ↔ x ∈ m) : l = m := by
  have hp : l.Perm m := (List.perm_ext_iff_of_nodup (hl.nodup h) (hm.nodup h)).2 e
  refine List.Perm.eq_of_pairwise (le := fun a b => c a b < 0) (fun a b _ _ h1 h2 => ?_) hl hm hp
  have := (h.anti a b).1 h1
  omega
theorem Asc3.ins (h : Ord3 c) {l : List α} {e : α} {k : Nat} (hl : Asc3 c l) (h1 : ∀ x ∈ l.take k, c x e < 0) (h2 : ∀ x ∈ l.drop k, c e x < 0) : Asc3 c (insAt l e k) := by
  rw [insAt, Asc3, List.pairwise_append]
  refine ⟨hl.sublist (List.take_sublist _ _), ?_, fun a ha b hb => ?_⟩
  · exact List.pairwise_cons.2 ⟨h2, hl.sublist (List.drop_sublist _ _)⟩
  · rcases List.mem_cons.1 hb with rfl | hb
    · exact h1 a ha
    · exact h.trans _ _ _ (h1 a ha) (h2 b hb)
theorem Asc3.take_lt (h : Ord3 c) {l : List α} (hl : Asc3 c l) {k : Nat} {y e : α} (hy : l[k]? = some y) (hc : c y e < 0) : ∀ x ∈ l.take (k + 1), c x e < 0 := by
  rw [List.take_add_one, hy, Option.toList_some]
  intro x hx
  rcases List.mem_append.1 hx with hx | hx
  · rw [Asc3, ← List.take_append_drop k l, List.pairwise_append] at hl
    exact h.trans _ _ _ (hl.2.2 x hx y (by rw [drop_at hy]; simp)) hc
  · rw [List.mem_singleton.1 hx]; exact hc
theorem Asc3.drop_gt (h : Ord3 c) {l : List α} (hl : Asc3 c l) {k : Nat} {y e : α} (hy : l[k]? = some y) (hc : c e y < 0) : ∀ x ∈ l.drop k, c e x < 0 := by
  rw [drop_at hy]
  intro x hx
  rcases List.mem_cons.1 hx with rfl | hx
  · exact hc
  · rw [Asc3, ← List.take_append_drop k l, List.pairwise_append, drop_at hy, List.pairwise_cons] at hl
    exact h.trans _ _ _ hc (hl.2.1.1 x hx)
theorem exists_ins (h : Ord3 c) (e : α) : ∀ l : List α, Asc3 c l → e ∈ l ∨ ∃ k, (∀ x ∈ l.take k, c x e < 0) ∧ ∀ x ∈ l.drop k, c e x < 0
  | [], _ => .inr ⟨0, by simp, by simp⟩
  | a :: l, hl => by
    obtain ⟨ha, hl⟩ := List.pairwise_cons.1 hl
    by_cases h0 : c e a = 0
    · exact .inl (by rw [(h.zero _ _).1 h0]; simp)
    · by_cases h1 : c e a < 0
      · exact .inr ⟨0, by simp, fun x hx => by
          rcases List.mem_cons.1 hx with rfl | hx
          · exact h1
          · exact h.trans _ _ _ h1 (ha x hx)⟩
      · have h3 := h.ge_pos h1 h0
        rcases exists_ins h e l hl with k | ⟨k, k1, k2⟩
        · exact .inl (List.mem_cons_of_mem _ k)
        · exact .inr ⟨k + 1, fun x hx => by
            rw [List.take_succ_cons] at hx
            rcases List.mem_cons.1 hx with rfl | hx
            · exact h3
            · exact k1 x hx, fun x hx => k2 x (by simpa using hx)⟩
theorem exists_asc (h : Ord3 c) : ∀ l : List α, ∃ m, Asc3 c m ∧ m.length ≤ l.length ∧ ∀ x, x ∈ m ↔ x ∈ l
  | [] => ⟨[], List.Pairwise.nil, Nat.le_refl _, fun _ => Iff.rfl⟩
  | a :: l => by
    obtain ⟨m, h1, h9, h2⟩ := exists_asc h l
    rcases exists_ins h a m h1 with k | ⟨k, k1, k2⟩
    · exact ⟨m, h1, by rw [List.length_cons]; omega, fun x => by
        rw [h2 x, List.mem_cons]
        exact ⟨.inr, fun g => g.elim (fun e => by subst e; exact (h2 _).1 k) id⟩⟩
    · exact ⟨insAt m a k, h1.ins h k1 k2, by rw [insAt_length, List.length_cons]; omega, fun x => by rw [insAt_mem, h2 x, List.mem_cons]⟩
/-- The elements in strict order, each once. -/
noncomputable def ascOf (h : Ord3 c) (l : List α) : List α := (exists_asc h l).choose
theorem ascOf_asc (h : Ord3 c) (l : List α) : Asc3 c (ascOf h l) := (exists_asc h l).choose_spec.1
theorem ascOf_len (h : Ord3 c) (l : List α) : (ascOf h l).length ≤ l.length := (exists_asc h l).choose_spec.2.1
theorem ascOf_mem (h : Ord3 c) (l : List α) (x : α) : x ∈ ascOf h l ↔ x ∈ l := (exists_asc h l).choose_spec.2.2 x
theorem ascOf_eq (h : Ord3 c) {l m : List α} (hm : Asc3 c m) (e : ∀ x, x ∈ m ↔ x ∈ l) : m = ascOf h l := hm.uniq h (ascOf_asc h l) fun x => by rw [e, ascOf_mem]
end
end Go.Vx

/- Contracts: which substitutions are fine. -/
namespace Go.Vx
open Go.Proofs Classical
/-! ### Plain -/
def bndOk (bs : List B) (b : B) : Prop := ¬ (b.to.tm.kind = 1 ∧ b.var ≤ b.to.tm.num) ∧ ∀ n ∈ b.to.vars, sub bs n = none
def substOk (l : List Bd) : Prop := valsOk l ∧ ∀ b ∈ l.map Bd.b, bndOk (l.map Bd.b) b
theorem B.bd_b (b : B) : b.bd.b = b := by
  cases b; simp [B.bd, Bd.b, T.toT_tm]
theorem B.map_b (bs : List B) : (bs.map B.bd).map Bd.b = bs := by
  rw [List.map_map]
  conv => rhs; rw [← List.map_id bs]
  exact List.map_congr_left fun b _ => B.bd_b b
/-- A fine list of bindings, as terms. -/
structure Vals (bs : List B) : Prop where
  ok : valsOk (bs.map B.bd)
theorem Vals.len {bs : List B} (h : Vals bs) : bs.length ≤ 400 := by have := h.ok.1; simpa using this
theorem Vals.srt {bs : List B} (h : Vals bs) : Srt bs := by have := h.ok.srt; rwa [B.map_b] at this
theorem Vals.tok {bs : List B} (h : Vals bs) : ∀ b ∈ bs, b.to.ok := by have := h.ok.lift.2; rwa [B.map_b] at this
theorem Vals.var {bs : List B} (h : Vals bs) : ∀ b ∈ bs, 0 ≤ b.var ∧ b.var ≤ 100000 := fun b hb => by
  obtain ⟨i, hi⟩ := List.mem_iff_getElem?.1 hb
  exact (h.ok.2 i b.bd (by simp [hi])).1
theorem valsOk.vals {l : List Bd} (h : valsOk l) : ∃ bs : List B, l = bs.map B.bd ∧ Vals bs := ⟨l.map Bd.b, h.lift.1.symm, ⟨by rw [h.lift.1]; exact h⟩⟩
structure Subst (bs : List B) : Prop where
  vals : Vals bs
  bnd : ∀ b ∈ bs, bndOk bs b
theorem substOk_iff (bs : List B) : substOk (bs.map B.bd) ↔ Subst bs := by
  unfold substOk
  rw [B.map_b]
  exact ⟨fun h => ⟨⟨h.1⟩, h.2⟩, fun h => ⟨h.1.1, h.2⟩⟩
theorem substOk.subst {l : List Bd} (h : substOk l) : ∃ bs : List B, l = bs.map B.bd ∧ Subst bs := by
  obtain ⟨bs, rfl, _⟩ := h.1.vals
  exact ⟨bs, rfl, (substOk_iff bs).1 h⟩
section
variable {μ : Mem}
theorem spec_SubstOk_spec {l : List Bd} {base : Option Addr} {cap : Nat} (hsl : Sl μ 5 base l.length (l.map Bd.d)) (hw : D.wds (l.map Bd.d)) : Gives Tryz.prog 74 [.slice base l.length cap] μ (.bool (decide (substOk l))) := by
  refine Spec.forget (Spec.mk Tryz.func74 (by kernel_rfl) ?_)
  refine call_gives (l04Values_spec hsl hw) ?_
  refine ifnd (fun h => ret_plain (isF fun k => h k.1)) (fun hv => ?_)
  obtain ⟨bs, rfl, hbs⟩ := hv.vals
  rw [List.length_map] at hsl ⊢
  have hn := hbs.len
  refine loop_intro (fun p : Nat × Mem => p.1 ≤ bs.length ∧ μ.Le p.2 ∧ ∀ (j : Nat) b, j < p.1 → bs[j]? = some b → bndOk bs b)
    (fun (i, μ') => ⟨[(0, .val (.slice base bs.length cap)), (12, .val (.slice base bs.length cap)), (13, .val (.int .i64 bs.length)), (14, .val (.int .i64 i))], [], 0, μ', Mem.nil⟩) (fun p => bs.length - p.1)
    (0, μ) ⟨by simp, Mem.Le.refl μ, fun j b hj => by simp at hj⟩ (fun (_, _) => ⟨rfl, rfl⟩) ⟨⟨rfl, rfl, rfl, rfl, trivial⟩, trivial, rfl, rfl⟩ ?_
  rintro ⟨i, μ'⟩ ⟨hi, hle, hall⟩
  dsimp only at hi hle hall
  refine ifd (fun h => ?_) (fun h => ?_)
  · obtain ⟨b, hb⟩ := at_some (l := bs) (i := i) (by omega)
    obtain ⟨ad, p, hel, hto⟩ := B.elem (hsl.mono hle) hb
    have hsz := (hbs.tok b (mem_at hb)).2
    have hvs := T.vars_size b.to
    have bad : ¬ bndOk bs b → Value.bool false = .bool (decide (substOk (bs.map B.bd))) := fun k => isF fun hs => k (((substOk_iff bs).1 hs).bnd b (mem_at hb))
    refine elem_intro hel ?_
    intro r
    refine ifd (fun h1 => ?_) (fun h1 => ?_)
    · refine ifd (fun h2 => ret_plain (bad fun k => k.1 ⟨h1, h2⟩)) (fun h2 => ?_)
      have hk : ¬ (b.to.tm.kind = 1 ∧ b.var ≤ b.to.tm.num) := fun k => h2 k.2
      refine call_plain (l02Vars_spec b.to (l := []) hto (Rep.nilSl 1) (by simp; omega)) fun v μ2 hle2 hR => ?_
      obtain ⟨rs, hrs, hmem, hlen⟩ := hR
      obtain ⟨vb, vc, rfl, hvs⟩ := Rep.sl hrs
      rw [List.length_map] at hvs hrs ⊢
      have hsl2 := (hsl.mono hle).mono hle2
      refine loop_intro (fun k : Nat => k ≤ rs.length ∧ ∀ (j : Nat) n, j < k → rs[j]? = some n → sub bs n = none)
        (fun k => ⟨[(0, .val (.slice base bs.length cap)), (12, .val (.slice base bs.length cap)), (13, .val (.int .i64 bs.length)), (14, .val (.int .i64 i)), (32, .val (.slice vb rs.length vc)), (33, .val (.int .i64 rs.length)), (34, .val (.int .i64 k))], [], 0, μ2, Mem.nil⟩) (fun k => rs.length - k)
        0 ⟨by omega, fun j n hj => by omega⟩ (fun k => ⟨rfl, rfl⟩) ⟨⟨rfl, rfl, rfl, rfl, rfl, rfl, rfl, trivial⟩, trivial, rfl, rfl⟩ ?_
      rintro k ⟨hkl, hz⟩
      have hrl : rs.length ≤ 5000 := by simp at hlen; omega
      refine ifd (fun h5 => ?_) (fun h5 => ?_)
      · obtain ⟨n, hn'⟩ := at_some (l := rs) (i := k) (by omega)
        obtain ⟨ad2, hel2⟩ := Ints.elem hvs hn'
        refine elem_intro hel2 ?_
        refine call_plain (l04Get_spec hsl2) fun v' μ3 hle3 hR3 => ?_
        obtain ⟨hR3, e3⟩ := hR3
        obtain rfl := e3.symm
        cases hs : sub bs n with
        | some y =>
          rw [hs] at hR3
          obtain ⟨tv, rfl, htv⟩ := hR3
          obtain ⟨q, rfl⟩ := Tm.invV htv
          intro r7
          refine if_intro (fun _ => ret_plain (bad fun k => ?_)) (fun h => nomatch h)
          have := k.2 n (((hmem n).1 (mem_at hn')).elim id (fun h => absurd h (by simp)))
          rw [hs] at this; cases this
        | none =>
          rw [hs] at hR3
          obtain rfl := hR3
          intro r7
          refine if_intro (fun h => nomatch h) (fun _ => ?_)
          refine num64 (by omega) (by omega) ⟨k + 1, ⟨by omega, fun j m hj hm => ?_⟩, by omega, ⟨⟨rfl, rfl, rfl, rfl, rfl, rfl, rfl, trivial⟩, trivial, rfl, rfl⟩⟩
          rcases Nat.lt_or_ge j k with h6 | h6
          · exact hz j m h6 hm
          · obtain rfl : j = k := by omega
            rw [hn'] at hm; cases hm; exact hs
      · obtain rfl : k = rs.length := by omega
        refine num64 (by omega) (by omega) ⟨(i + 1, μ2), ⟨by dsimp only; omega, hle.trans hle2, fun j c hj hc => ?_⟩, by dsimp only; omega, ⟨⟨rfl, rfl, rfl, rfl, trivial⟩, trivial, rfl, rfl⟩⟩
        dsimp only at hj
        rcases Nat.lt_or_ge j i with h6 | h6
        · exact hall j c h6 hc
        · obtain rfl : j = i := by omega
          rw [hb] at hc; cases hc
          refine ⟨hk, fun n hnv => ?_⟩
          obtain ⟨m, hm⟩ := List.mem_iff_getElem?.1 ((hmem n).2 (.inl hnv))
          exact hz m n (List.getElem?_eq_some_iff.1 hm).1 hm
    · have hk : ¬ (b.to.tm.kind = 1 ∧ b.var ≤ b.to.tm.num) := fun k => h1 k.1
      refine call_plain (l02Vars_spec b.to (l := []) hto (Rep.nilSl 1) (by simp; omega)) fun v μ2 hle2 hR => ?_
      obtain ⟨rs, hrs, hmem, hlen⟩ := hR
      obtain ⟨vb, vc, rfl, hvs⟩ := Rep.sl hrs
      rw [List.length_map] at hvs hrs ⊢
      have hsl2 := (hsl.mono hle).mono hle2
      refine loop_intro (fun k : Nat => k ≤ rs.length ∧ ∀ (j : Nat) n, j < k → rs[j]? = some n → sub bs n = none)
        (fun k => ⟨[(0, .val (.slice base bs.length cap)), (12, .val (.slice base bs.length cap)), (13, .val (.int .i64 bs.length)), (14, .val (.int .i64 i)), (32, .val (.slice vb rs.length vc)), (33, .val (.int .i64 rs.length)), (34, .val (.int .i64 k))], [], 0, μ2, Mem.nil⟩) (fun k => rs.length - k)
        0 ⟨by omega, fun j n hj => by omega⟩ (fun k => ⟨rfl, rfl⟩) ⟨⟨rfl, rfl, rfl, rfl, rfl, rfl, rfl, trivial⟩, trivial, rfl, rfl⟩ ?_
      rintro k ⟨hkl, hz⟩
      have hrl : rs.length ≤ 5000 := by simp at hlen; omega
      refine ifd (fun h5 => ?_) (fun h5 => ?_)
      · obtain ⟨n, hn'⟩ := at_some (l := rs) (i := k) (by omega)
        obtain ⟨ad2, hel2⟩ := Ints.elem hvs hn'
        refine elem_intro hel2 ?_
        refine call_plain (l04Get_spec hsl2) fun v' μ3 hle3 hR3 => ?_
        obtain ⟨hR3, e3⟩ := hR3
        obtain rfl := e3.symm
        cases hs : sub bs n with
        | some y =>
          rw [hs] at hR3
          obtain ⟨tv, rfl, htv⟩ := hR3
          obtain ⟨q, rfl⟩ := Tm.invV htv
          intro r7
          refine if_intro (fun _ => ret_plain (bad fun k => ?_)) (fun h => nomatch h)
          have := k.2 n (((hmem n).1 (mem_at hn')).elim id (fun h => absurd h (by simp)))
          rw [hs] at this; cases this
        | none =>
          rw [hs] at hR3
          obtain rfl := hR3
          intro r7
          refine if_intro (fun h => nomatch h) (fun _ => ?_)
          refine num64 (by omega) (by omega) ⟨k + 1, ⟨by omega, fun j m hj hm => ?_⟩, by omega, ⟨⟨rfl, rfl, rfl, rfl, rfl, rfl, rfl, trivial⟩, trivial, rfl, rfl⟩⟩
          rcases Nat.lt_or_ge j k with h6 | h6
          · exact hz j m h6 hm
          · obtain rfl : j = k := by omega
            rw [hn'] at hm; cases hm; exact hs
      · obtain rfl : k = rs.length := by omega
        refine num64 (by omega) (by omega) ⟨(i + 1, μ2), ⟨by dsimp only; omega, hle.trans hle2, fun j c hj hc => ?_⟩, by dsimp only; omega, ⟨⟨rfl, rfl, rfl, rfl, trivial⟩, trivial, rfl, rfl⟩⟩
        dsimp only at hj
        rcases Nat.lt_or_ge j i with h6 | h6
        · exact hall j c h6 hc
        · obtain rfl : j = i := by omega
          rw [hb] at hc; cases hc
          refine ⟨hk, fun n hnv => ?_⟩
          obtain ⟨m, hm⟩ := List.mem_iff_getElem?.1 ((hmem n).2 (.inl hnv))
          exact hz m n (List.getElem?_eq_some_iff.1 hm).1 hm
  · obtain rfl : i = bs.length := by omega
    exact ret_plain (isT ((substOk_iff bs).2 ⟨hbs, fun b hb => by
      obtain ⟨j, hj⟩ := List.mem_iff_getElem?.1 hb
      exact hall j b (List.getElem?_eq_some_iff.1 hj).1 hj⟩))
/-- A cell of one's own beside other memory. -/
def boolOn (H : Mem) (r : Nat) (b : Bool) : Mem := H.set r (.cells #[.bool b] 4 (0, 0))
noncomputable def unbound (bs : List B) (f : Bool) (n : Int) : Bool := if sub bs n = none then f else false
theorem SubstOk1_spec {bs : List B} {base : Option Addr} {cap : Nat} {H : Mem} {r1 : Nat} {t1 : TypeId} (r : Nat) (b : Bool) (n : Int) (hs : Srt bs) (hlen : bs.length ≤ 1000000000) (hsl : Sl μ 5 base bs.length ((bs.map B.bd).map Bd.d)) (h1 : μ r1 = some (.cells #[.slice base bs.length cap] t1 (0, 0))) :
    SpecH Tryz.prog 172 [.int .i64 n, .pointer (some ⟨r1, 0, none⟩), .pointer (some ⟨r, 0, none⟩)] μ (boolOn H r b) fun v μ' h' => v = .tuple #[] ∧ μ' = μ ∧ h' = boolOn H r (unbound bs b n) := by
  refine SpecH.mk [] Tryz.func172 (by kernel_rfl) ?_
  refine ext_intro [.slice base bs.length cap] rfl (box_at h1) ?_
  refine call_plain (find_spec hs hlen hsl) fun v μ2 hle2 hR => ?_
  obtain ⟨hR, e2⟩ := hR
  obtain rfl := e2.symm
  rcases hR with ⟨i, c, rfl, hc, hn⟩ | ⟨rfl, hno⟩
  · refine ifd (fun _ => ?_) (fun h => absurd h (by omega))
    refine sto_intro (h := boolOn H r b) (a := ⟨r, 0, none⟩) [.bool b] 4 (set_self _ _ _) rfl ?_ ?_
    · exact Nat.le_refl _
    have e : sub bs n ≠ none := by rw [sub_some hs hc hn]; exact fun h => nomatch h
    exact ret_plain ⟨rfl, rfl, by rw [unbound, if_neg e]; exact Mem.set_set _ _ _ _⟩
  · refine ifd (fun h => absurd h (by omega)) (fun _ => ?_)
    exact ret_plain ⟨rfl, rfl, by rw [unbound, if_pos (sub_none hno)]⟩
theorem unbound_all (bs : List B) : ∀ (l : List Int) (f : Bool), l.foldl (unbound bs) f = (f && decide (∀ n ∈ l, sub bs n = none))
  | [], f => by simp
  | n :: l, f => by
    rw [List.foldl_cons, unbound_all bs l, unbound]
    by_cases h : sub bs n = none <;> simp [h]
theorem impl_SubstOk_spec {l : List Bd} {base : Option Addr} {cap : Nat} (hsl : Sl μ 5 base l.length (l.map Bd.d)) : Gives Tryz.prog 79 [.slice base l.length cap] μ (.bool (decide (substOk l))) := by
  refine Spec.forget (Spec.mkO [5] Tryz.func79 (by kernel_rfl) ?_)
  intro r1
  refine call_frz [0] ?_
  intro μ1 hle1 hno1 hat1
  refine call_go (impl_ValuesOk_spec (hsl.mono hle1)) fun v μ2 hle2 hR => ?_
  obtain ⟨rfl, e2⟩ := hR
  obtain rfl := e2.symm
  refine ifnd (fun h => ret_plain (isF fun k => h k.1)) (fun hv => ?_)
  obtain ⟨bs, rfl, hbs⟩ := hv.vals
  rw [List.length_map] at hsl hat1 ⊢
  have hn := hbs.len
  have hsl1 := hsl.mono hle1
  refine ext_intro [.slice base bs.length cap] rfl (box_at hat1) ?_
  refine loop_intro (fun p : Nat × Mem => p.1 ≤ bs.length ∧ ∀ (j : Nat) b, j < p.1 → bs[j]? = some b → bndOk bs b)
    (fun (i, H) => ⟨[(1, .loc 0 r1 0), (9, .val (.slice base bs.length cap)), (10, .val (.int .i64 bs.length)), (11, .val (.int .i64 i))], [], 1, μ1, H⟩) (fun p => bs.length - p.1)
    (0, Mem.nil) ⟨by simp, fun j b hj => by simp at hj⟩ (fun (_, _) => ⟨rfl, rfl⟩) ⟨⟨rfl, rfl, rfl, rfl, trivial⟩, trivial, rfl, rfl⟩ ?_
  rintro ⟨i, H⟩ ⟨hi, hall⟩
  dsimp only at hi hall
  refine ifd (fun h => ?_) (fun h => ?_)
  · obtain ⟨b, hb⟩ := at_some (l := bs) (i := i) (by omega)
    obtain ⟨ad, p, hel, hto⟩ := B.elem hsl1 hb
    have bad : ¬ bndOk bs b → Value.bool false = .bool (decide (substOk (bs.map B.bd))) := fun k => isF fun hs => k (((substOk_iff bs).1 hs).bnd b (mem_at hb))
    refine elem_intro hel ?_
    intro r r5 hm5 ho5
    refine sto_intro [.bool false] 4 (set_self _ _ _) rfl ?_ ?_
    · exact Nat.le_refl _
    have e : ((H.set r5 (.cells #[.bool false] 4 (0, 0))).set r5 (.cells #[.bool true] 4 (0, 0))) = boolOn H r5 true := Mem.set_set _ _ _ _
    refine call_own (R := fun r μ' h' => r = .tuple #[] ∧ μ' = μ1 ∧ h' = boolOn H r5 (b.to.vars.foldl (unbound bs) true)) ?_ fun v μ' h' hle hap hR => ?_
    · have := eachVar_spec (μ := μ1) (boolOn H r5) (unbound bs) (Q := fun _ => True) (fun s n _ => SubstOk1_spec (H := H) r5 s n hbs.srt (by omega) hsl1 hat1) b.to true hto (fun _ _ => trivial)
      rw [← e] at this
      exact this
    obtain ⟨rfl, e4, rfl⟩ := hR
    obtain rfl := e4.symm
    rw [unbound_all, Bool.true_and]
    refine own_intro [.bool (decide (∀ n ∈ b.to.vars, sub bs n = none))] rfl (fun j v hj => ?_) ?_
    · match j, hj with
      | 0, hj => cases hj; simp [boolOn, Mem.cell, Addr.add_lit', set_self]
    have fin : bndOk bs b → ∀ (j : Nat) c, j < i + 1 → bs[j]? = some c → bndOk bs c := fun hok j c hj hc => by
      rcases Nat.lt_or_ge j i with h6 | h6
      · exact hall j c h6 hc
      · obtain rfl : j = i := by omega
        rw [hb] at hc; cases hc; exact hok
    refine ifnd (fun h1 => ret_plain (bad fun k => h1 k.2)) (fun h1 => ?_)
    refine ifd (fun h2 => ?_) (fun h2 => ?_)
    · refine ifd (fun h3 => ret_plain (bad fun k => k.1 ⟨h2, h3⟩)) (fun h3 => ?_)
      exact num64 (by omega) (by omega) ⟨(i + 1, _), ⟨by dsimp only; omega, fin ⟨fun k => h3 k.2, h1⟩⟩, by dsimp only; omega, ⟨⟨rfl, rfl, rfl, rfl, trivial⟩, trivial, rfl, rfl⟩⟩
    · exact num64 (by omega) (by omega) ⟨(i + 1, _), ⟨by dsimp only; omega, fin ⟨fun k => h2 k.1, h1⟩⟩, by dsimp only; omega, ⟨⟨rfl, rfl, rfl, rfl, trivial⟩, trivial, rfl, rfl⟩⟩
  · obtain rfl : i = bs.length := by omega
    exact ret_plain (isT ((substOk_iff bs).2 ⟨hbs, fun b hb => by
      obtain ⟨j, hj⟩ := List.mem_iff_getElem?.1 hb
      exact hall j b (List.getElem?_eq_some_iff.1 hj).1 hj⟩))
end
end Go.Vx

/- Marks counted; the term of an answer. -/
namespace Go.Vx
open Go.Proofs Classical
theorem tm_cnt_sz : ∀ t : Tm, t.d.cnt ≤ 3 + 3 * t.d.sz :=
  Tm.ind fun k n s l ih => by
    have : D.cnts (l.map Tm.d) ≤ 3 * l.length + 3 * D.szs (l.map Tm.d) := by
      induction l with
      | nil => simp [D.cnts, D.szs]
      | cons t l ih2 =>
        have h1 := ih t (by simp)
        have h2 := ih2 fun t ht => ih t (by simp [ht])
        simp only [List.map_cons, D.cnts, D.szs, List.length_cons]; omega
    rw [Tm.cnt_eq, Tm.d_mk]
    show 3 + D.cnts (l.map Tm.d) ≤ _
    simp only [D.sz, D.szs, List.length_map]
    omega
theorem bds_cnt : ∀ l : List Bd, D.cnts (l.map Bd.d) ≤ 4 * l.length + 3 * D.szs (l.map Bd.d)
  | [] => by simp [D.cnts, D.szs]
  | b :: l => by
    have h1 := bds_cnt l
    have h2 := tm_cnt_sz b.to
    rw [Tm.cnt_eq] at h2
    have h3 := Bd.cnt_eq b
    have h4 : b.d.sz = b.to.d.sz := by simp [Bd.d, D.sz, D.szs]
    simp only [List.map_cons, D.cnts, D.szs, List.length_cons]; omega
theorem tm_mt (t : Tm) (k : Int) : (t.d.mt k).2 = k + D.cnts (t.args.map Tm.d) := by rw [Tm.mt_eq]; exact D.mks_cnt _ _
end Go.Vx

/- Contracts: substitutions applied; which one is more general; unifiers. -/
namespace Go.Vx
open Go.Proofs Classical
/-! ### Plain -/
noncomputable def appl (l : List Bd) (t : Tm) : Option T := if substOk l ∧ t.Ok then fit (t.toT.subst (sub (l.map Bd.b))) else none
theorem fit_some {x y : T} : fit x = some y ↔ x.size ≤ 5000 ∧ x = y := by
  unfold fit
  split
  · rename_i h; exact ⟨fun k => ⟨h, Option.some.inj k⟩, fun k => by rw [k.2]⟩
  · rename_i h; exact ⟨fun k => (nomatch k), fun k => absurd k.1 h⟩
section
variable {μ : Mem}
theorem spec_ApplySubst_spec {t : Tm} {l : List Bd} {v : Value} {base : Option Addr} {cap : Nat} (hsl : Sl μ 5 base l.length (l.map Bd.d)) (hwl : D.wds (l.map Bd.d)) (hv : RepV μ t.d v) (hw : t.d.wd) :
    Spec Tryz.prog 86 [.slice base l.length cap, v] μ fun v μ' => optV (fun y tv => RepV μ' y.tm.d tv) (appl l t) v := by
  obtain ⟨p, rfl⟩ := Tm.invV hv
  refine Spec.mk Tryz.func86 (by kernel_rfl) ?_
  intro r1 r2
  refine call_gives (spec_SubstOk_spec hsl hwl) ?_
  refine ifnd (fun h => ret_plain (by rw [appl, if_neg fun k => h k.1]; rfl)) (fun h1 => ?_)
  refine call_gives (spec_TermOk_spec t hv hw) ?_
  refine ifnd (fun h => ret_plain (by rw [appl, if_neg fun k => h k.2]; rfl)) (fun h2 => ?_)
  obtain ⟨x, _, rfl⟩ := h2.lift
  obtain ⟨bs, rfl, hbs⟩ := h1.subst
  rw [List.length_map] at hsl ⊢
  have e3 : appl (bs.map B.bd) x.tm = fit (x.subst (sub bs)) := by
    rw [appl, if_pos ⟨h1, h2⟩, T.toT_tm, B.map_b]
  rw [e3]
  refine call_plain (l04Apply_spec x hsl hv) fun v1 μ1 hle1 hR => ?_
  obtain ⟨tv, rfl, hR⟩ := hR
  obtain ⟨q, rfl⟩ := Tm.invV hR
  intro r3
  refine ifnd (fun h => ret_plain (by rw [fit, if_neg h]; rfl)) (fun h3 => ?_)
  refine call_plain (l02Copy_spec _ hR) fun v2 μ2 hle2 hR2 => ?_
  obtain ⟨q2, rfl⟩ := Tm.invV hR2
  refine ret_plain ?_
  rw [fit, if_pos h3]
  exact ⟨_, rfl, hR2⟩
end
end Go.Vx

/- Plain: terms that are well-formed fit the machine. -/
namespace Go.Vx
open Go.Proofs Classical
theorem T.good_subst {f : Int → Option T} (hf : ∀ n y, f n = some y → y.good) : ∀ {x : T}, x.good → (x.subst f).good
  | .var n, h => by
    simp only [T.subst]
    cases e : f n with
    | none => exact h
    | some y => exact hf n y e
  | .pair a b, h => ⟨T.good_subst hf h.1, T.good_subst hf h.2⟩
  | .nil, h => h
  | .sym _, h => h
  | .num _, h => h
end Go.Vx

/- Contracts: what texts on substitutions share: rows out of slices, terms under a substitution, a bound variable replaced. -/
namespace Go.Vx
open Go.Proofs Classical
section
variable {μ : Mem}
theorem Rep.srcAll {es n cap : Nat} {base : Option Addr} {ds : List D} (h : RepV μ (.sl es ds) (.slice base n cap)) : ∃ vs, Rows μ es ds vs ∧ vs.length = n ∧ SrcAt μ base n es vs := by
  obtain ⟨vs, hrows, hvl, hcap, hsrc⟩ := Rep.src h
  have := hsrc 0 n (Nat.zero_le _) (Nat.le_refl _)
  have e1 : (if cap = 0 then base else base.map (·.add (0 * es))) = base := by
    split
    · rfl
    · cases base with
      | none => rfl
      | some a => simp [Addr.add]
  rw [e1, Nat.sub_zero, List.drop_zero, List.take_of_length_le (by omega)] at this
  exact ⟨vs, hrows, hvl, this⟩
theorem appl_good {s : List Bd} {t : Tm} {x : T} (h1 : substOk s) (h2 : t.Ok) (h : fit (t.toT.subst (sub (s.map Bd.b))) = some x) : x.good := by
  obtain ⟨bs, rfl, hbs⟩ := h1.subst
  rw [B.map_b] at h
  obtain ⟨_, rfl⟩ := fit_some.1 h
  exact T.good_subst (fun n y hy => (sub_ok hbs.vals.tok hy).1) h2.toT.1.1
end
end Go.Vx

/- Plain: marks of variables: which lists are well-formed, and what a mark asked of a term makes. -/
namespace Go.Vx
open Go.Proofs Classical
noncomputable def cMk (a b : Mk) : Int := lexI (cInt a.var b.var) (cName a.tag b.tag)
theorem cMk_ord : Ord3 cMk where
  zero x y := by
    rw [cMk, lexI_zero, cInt_ord.zero, cName_ord.zero]
    cases x; cases y; simp
  anti x y := cInt_ord.lex_anti fun _ => cName_ord.anti _ _
  trans x y z := cInt_ord.lex_trans fun _ _ => cName_ord.trans _ _ _
theorem sgn_neg (b : Bool) : sgn b < 0 ↔ b = true := by cases b <;> simp [sgn]
/-- The order of marks, as the program asks it. -/
theorem cMk_lt (a b : Mk) : cMk a b < 0 ↔ a.var < b.var ∨ a.var = b.var ∧ Op.bytesLess a.tag.data.toList b.tag.data.toList = true := by
  unfold cMk lexI cInt
  by_cases h1 : a.var = b.var
  · rw [if_pos h1, if_pos rfl]
    have : ¬ a.var < b.var := by omega
    simp only [this, h1, true_and, false_or]
    unfold cName
    by_cases h2 : a.tag = b.tag
    · rw [if_pos h2, h2, bl_irrefl]; simp
    · rw [if_neg h2, sgn_neg]
      exact ⟨.inr, fun k => k.elim (fun k => by omega) id⟩
  · rw [if_neg h1, if_neg (sgn_ne _), sgn_neg]
    simp [h1]
noncomputable def ltM (a b : Mk) : Bool := decide (cMk a b < 0)
theorem ltM_eq (a b : Mk) : ltM a b = (decide (a.var < b.var) || (decide (a.var = b.var) && Op.bytesLess a.tag.data.toList b.tag.data.toList)) := by
  rw [ltM, Bool.eq_iff_iff]
  simp only [decide_eq_true_eq, Bool.or_eq_true, Bool.and_eq_true]
  exact cMk_lt a b
def mokAt (l : List Mk) (i : Nat) (k : Mk) : Prop := (0 ≤ k.var ∧ k.var ≤ 100000) ∧ IsNm k.tag ∧ ∀ j c, j + 1 = i → l[j]? = some c → cMk c k < 0
def marksOk (l : List Mk) : Prop := ∀ i k, l[i]? = some k → mokAt l i k
def GoodM (k : Mk) : Prop := (0 ≤ k.var ∧ k.var ≤ 100000) ∧ IsNm k.tag
theorem asc_at {α : Type} {c : α → α → Int} (h : Ord3 c) {l : List α} (hn : ∀ i k, l[i]? = some k → ∀ j b, j + 1 = i → l[j]? = some b → c b k < 0) : Asc3 c l := by
  have key : ∀ (i j : Nat) b k, i < j → l[i]? = some b → l[j]? = some k → c b k < 0 := fun i j b k hij hb hk => by
    induction j generalizing k with
    | zero => omega
    | succ j ih =>
      have hj : j < l.length := by have := (List.getElem?_eq_some_iff.1 hk).1; omega
      obtain ⟨d, hd⟩ := at_some hj
      have h1 := hn (j + 1) k hk j d rfl hd
      rcases Nat.lt_or_ge i j with h2 | h2
      · exact h.trans _ _ _ (ih d h2 hd) h1
      · obtain rfl : i = j := by omega
        rw [hb] at hd; cases hd; exact h1
  rw [Asc3, List.pairwise_iff_getElem]
  intro i j hi hj hij
  exact key i j _ _ hij (by simp) (by simp)
theorem asc_get {α : Type} {c : α → α → Int} {l : List α} (h : Asc3 c l) {i j : Nat} {a b : α} (hij : i < j) (ha : l[i]? = some a) (hb : l[j]? = some b) : c a b < 0 := by
  rw [Asc3, List.pairwise_iff_getElem] at h
  obtain ⟨hi, rfl⟩ := List.getElem?_eq_some_iff.1 ha
  obtain ⟨hj, rfl⟩ := List.getElem?_eq_some_iff.1 hb
  exact h i j hi hj hij
theorem marksOk_iff (l : List Mk) : marksOk l ↔ Asc3 cMk l ∧ ∀ k ∈ l, GoodM k := by
  constructor
  · intro h
    refine ⟨asc_at cMk_ord fun i k hk j b hj hb => (h i k hk).2.2 j b hj hb, fun k hk => ?_⟩
    obtain ⟨i, hi⟩ := List.mem_iff_getElem?.1 hk
    exact ⟨(h i k hi).1, (h i k hi).2.1⟩
  · rintro ⟨h1, h2⟩ i k hk
    have := h2 k (mem_at hk)
    exact ⟨this.1, this.2, fun j c hj hc => asc_get h1 (by omega) hc hk⟩
/-- A symbol in a term. -/
def T.hasSym (s : ByteArray) : T → Prop
  | .sym a => a = s
  | .pair a b => a.hasSym s ∨ b.hasSym s
  | .nil => False
  | .var _ => False
  | .num _ => False
theorem T.hasSym_args (s : ByteArray) (x : T) : x.hasSym s ↔ (x.tm.kind = 2 ∧ x.tm.name = s) ∨ ∃ y ∈ x.args, y.hasSym s := by
  cases x <;> simp [T.hasSym, T.tm, Tm.kind, Tm.name, T.args]
def mksOf (x : T) (tag : ByteArray) : List Mk := x.vars.map fun v => ⟨v, tag⟩
theorem mem_mksOf {x : T} {tag : ByteArray} {z : Mk} : z ∈ mksOf x tag ↔ ∃ n ∈ x.vars, z = ⟨n, tag⟩ := by
  rw [mksOf, List.mem_map]
  exact ⟨fun ⟨n, h, e⟩ => ⟨n, h, e.symm⟩, fun ⟨n, h, e⟩ => ⟨n, h, e.symm⟩⟩
/-- A mark asked of a term. -/
noncomputable def addM1 (l : List Mk) (x : T) (tag : ByteArray) : Option (List Mk) := if x.hasSym tag then none else some (ascOf cMk_ord (l ++ mksOf x tag))
theorem addM1_len {l m : List Mk} {x : T} {tag : ByteArray} (h : addM1 l x tag = some m) : m.length ≤ l.length + x.vars.length := by
  unfold addM1 at h
  split at h
  · cases h
  · cases h
    have := ascOf_len cMk_ord (l ++ mksOf x tag)
    rw [List.length_append] at this
    simpa [mksOf] using this
/-- A mark asked of a term under a substitution. -/
noncomputable def addM (s : List Bd) (l : List Mk) (t : Tm) (tag : ByteArray) : Option (List Mk) :=
  if substOk s ∧ t.Ok ∧ marksOk l ∧ IsNm tag then (fit (t.toT.subst (sub (s.map Bd.b)))).bind fun x => addM1 l x tag else none
def optMk (P : List Mk → Value → Prop) (o : Option (List Mk)) (v : Value) : Prop := match o with
  | some l => ∃ tv, v = .tuple #[tv, .bool true] ∧ P l tv
  | none => v = .tuple #[.slice none 0 0, .bool false]
end Go.Vx

/- Contracts: marks: which lists are well-formed; a mark asked of a term, the reference's side. -/
namespace Go.Vx
open Go.Proofs Classical
def Mk.v (k : Mk) : Value := .agg #[.int .i64 k.var, .string k.tag]
section
variable {μ : Mem}
theorem Mk.repV (y : Mk) : RepV μ y.d y.v := by
  rw [Mk.d_eq]
  exact ⟨_, rfl, RepS.int (RepS.str rfl)⟩
theorem beforeMark_spec (a b : Mk) : Gives Tryz.prog 97 [a.v, b.v] μ (.bool (decide (cMk a b < 0))) := by
  have e : decide (cMk a b < 0) = (decide (a.var < b.var) || (decide (a.var = b.var) && Op.bytesLess a.tag.data.toList b.tag.data.toList)) := ltM_eq a b
  rw [e]
  refine Spec.mk Tryz.func97 (by kernel_rfl) ?_
  intro r0 r1
  refine ifd (fun h => ret_gives (by simp [h]) rfl) (fun h => ?_)
  refine ifd (fun h2 => ?_) (fun h2 => ret_gives (by simp [h, h2]) rfl)
  exact ret_gives (by simp [h2]) rfl
theorem l10Less_spec (a b : Mk) : Gives Tryz.prog 169 [a.v, b.v] μ (.bool (decide (cMk a b < 0))) := by
  have e : decide (cMk a b < 0) = (decide (a.var < b.var) || (decide (a.var = b.var) && Op.bytesLess a.tag.data.toList b.tag.data.toList)) := ltM_eq a b
  rw [e]
  refine Spec.mk Tryz.func169 (by kernel_rfl) ?_
  intro r0 r1
  refine ifd (fun h => ret_gives (by simp [h]) rfl) (fun h => ?_)
  refine ifd (fun h2 => ?_) (fun h2 => ret_gives (by simp [h, h2]) rfl)
  exact ret_gives (by simp [h2]) rfl
theorem impl_MarksOk_spec {l : List Mk} {base : Option Addr} {cap : Nat} (hsl : Sl μ 2 base l.length (l.map Mk.d)) : Gives Tryz.prog 80 [.slice base l.length cap] μ (.bool (decide (marksOk l))) := by
  have hn := maxLen_le hsl.max
  refine Spec.mk Tryz.func80 (by kernel_rfl) ?_
  refine loop_intro (fun i : Nat => i ≤ l.length ∧ ∀ j k, j < i → l[j]? = some k → mokAt l j k) (fun i => ⟨[(0, .val (.slice base l.length cap)), (5, .val (.slice base l.length cap)), (6, .val (.int .i64 l.length)), (7, .val (.int .i64 i))], [], 0, μ, Mem.nil⟩) (fun i => l.length - i)
    0 ⟨by omega, fun j k hj => by omega⟩ (fun i => ⟨rfl, rfl⟩) ⟨⟨rfl, rfl, rfl, rfl, trivial⟩, trivial, rfl, rfl⟩ ?_
  rintro i ⟨hi, hall⟩
  refine ifd (fun h => ?_) (fun h => ?_)
  rotate_left
  · obtain rfl : i = l.length := by omega
    exact ret_gives (isT fun j k hk => hall j k (List.getElem?_eq_some_iff.1 hk).1 hk) rfl
  obtain ⟨x, hx⟩ := at_some (l := l) (i := i) (by omega)
  obtain ⟨ad, p, hel, hr⟩ := Mk.elem hsl hx
  have bad : ¬ mokAt l i x → Value.bool false = .bool (decide (marksOk l)) := fun k => isF fun hv => k (hv i x hx)
  have next : mokAt l i x → ∀ j k, j < i + 1 → l[j]? = some k → mokAt l j k := fun h0 j k hj hk => by
    rcases Nat.lt_or_ge j i with h6 | h6
    · exact hall j k h6 hk
    · obtain rfl : j = i := by omega
      rw [hx] at hk; cases hk; exact h0
  refine elem_intro hel ?_
  intro r
  refine ifd (fun h1 => ret_gives (bad fun k => by have := k.1.1; omega) rfl) (fun h1 => ?_)
  refine ifd (fun h2 => ret_gives (bad fun k => by have := k.1.2; omega) rfl) (fun h2 => ?_)
  refine call_gives (impl_IsName_spec _ _) ?_
  refine ifnd (fun h => ret_gives (bad fun k => h k.2.1) rfl) (fun hnm => ?_)
  refine ifd (fun h0 => ?_) (fun h0 => ?_)
  · obtain ⟨c, hc⟩ := at_some (l := l) (i := i - 1) (by omega)
    obtain ⟨ad2, p2, hel2, _⟩ := Mk.elem hsl hc
    have hprev : mokAt l i x → cMk c x < 0 := fun k => k.2.2 (i - 1) c (by omega) hc
    refine num_eq (x := ((i - 1 : Nat) : Int)) (by rw [wrap64 (by omega) (by omega)]; omega) ?_
    refine elem_intro hel2 ?_
    refine call_gives (beforeMark_spec c x) ?_
    refine ifnd (fun h1 => ret_gives (bad fun k => h1 (hprev k)) rfl) (fun h4 => ?_)
    have hlt : ∀ j c', j + 1 = i → l[j]? = some c' → cMk c' x < 0 := fun j c' hj hc' => by
      have e : j = i - 1 := by omega
      rw [e, hc] at hc'
      cases hc'; exact h4
    refine num64 (by omega) (by omega) ⟨i + 1, ⟨by omega, next ⟨⟨by omega, by omega⟩, hnm, hlt⟩⟩, by omega, ⟨⟨rfl, rfl, rfl, rfl, trivial⟩, trivial, rfl, rfl⟩⟩
  · have hlt : ∀ j c', j + 1 = i → l[j]? = some c' → cMk c' x < 0 := fun j c' hj _ => by omega
    refine num64 (by omega) (by omega) ⟨i + 1, ⟨by omega, next ⟨⟨by omega, by omega⟩, hnm, hlt⟩⟩, by omega, ⟨⟨rfl, rfl, rfl, rfl, trivial⟩, trivial, rfl, rfl⟩⟩
theorem spec_MarksOk_spec {l : List Mk} {base : Option Addr} {cap : Nat} (hsl : Sl μ 2 base l.length (l.map Mk.d)) (hw : D.wds (l.map Mk.d)) : Gives Tryz.prog 75 [.slice base l.length cap] μ (.bool (decide (marksOk l))) := by
  have hn := maxLen_le hsl.max
  refine Spec.mk Tryz.func75 (by kernel_rfl) ?_
  refine loop_intro (fun i : Nat => i ≤ l.length ∧ ∀ j k, j < i → l[j]? = some k → mokAt l j k) (fun i => ⟨[(0, .val (.slice base l.length cap)), (5, .val (.slice base l.length cap)), (6, .val (.int .i64 l.length)), (7, .val (.int .i64 i))], [], 0, μ, Mem.nil⟩) (fun i => l.length - i)
    0 ⟨by omega, fun j k hj => by omega⟩ (fun i => ⟨rfl, rfl⟩) ⟨⟨rfl, rfl, rfl, rfl, trivial⟩, trivial, rfl, rfl⟩ ?_
  rintro i ⟨hi, hall⟩
  refine ifd (fun h => ?_) (fun h => ?_)
  rotate_left
  · obtain rfl : i = l.length := by omega
    exact ret_gives (isT fun j k hk => hall j k (List.getElem?_eq_some_iff.1 hk).1 hk) rfl
  obtain ⟨x, hx⟩ := at_some (l := l) (i := i) (by omega)
  obtain ⟨ad, p, hel, hr⟩ := Mk.elem hsl hx
  have bad : ¬ mokAt l i x → Value.bool false = .bool (decide (marksOk l)) := fun k => isF fun hv => k (hv i x hx)
  have next : mokAt l i x → ∀ j k, j < i + 1 → l[j]? = some k → mokAt l j k := fun h0 j k hj hk => by
    rcases Nat.lt_or_ge j i with h6 | h6
    · exact hall j k h6 hk
    · obtain rfl : j = i := by omega
      rw [hx] at hk; cases hk; exact h0
  refine elem_intro hel ?_
  intro r
  have hsz : x.tag.size ≤ maxLen := by
    have h := D.wds_mem hw _ (mem_at (at_map (f := Mk.d) hx))
    rw [Mk.d_eq] at h; exact h.2.1
  refine ifd (fun h0 => ?_) (fun h0 => ?_)
  · obtain ⟨c, hc⟩ := at_some (l := l) (i := i - 1) (by omega)
    obtain ⟨ad2, p2, hel2, _⟩ := Mk.elem hsl hc
    have hprev : mokAt l i x → cMk c x < 0 := fun k => k.2.2 (i - 1) c (by omega) hc
    refine num_eq (x := ((i - 1 : Nat) : Int)) (by rw [wrap64 (by omega) (by omega)]; omega) ?_
    refine elem_intro hel2 ?_
    refine call_gives (l10Less_spec c x) ?_
    refine ifnd (fun h1 => ret_gives (bad fun k => h1 (hprev k)) rfl) (fun h4 => ?_)
    have hlt : ∀ j c', j + 1 = i → l[j]? = some c' → cMk c' x < 0 := fun j c' hj hc' => by
      have e : j = i - 1 := by omega
      rw [e, hc] at hc'
      cases hc'; exact h4
    refine call_gives (l01In_spec _ _ _ _) ?_
    refine ifnd (fun h => ret_gives (bad fun k => h ⟨k.1.1, k.1.2⟩) rfl) (fun h3 => ?_)
    refine call_gives (spec_IsName_spec _ hsz _) ?_
    refine ifnd (fun h => ret_gives (bad fun k => h k.2.1) rfl) (fun hnm => ?_)
    refine num64 (by omega) (by omega) ⟨i + 1, ⟨by omega, next ⟨⟨by omega, by omega⟩, hnm, hlt⟩⟩, by omega, ⟨⟨rfl, rfl, rfl, rfl, trivial⟩, trivial, rfl, rfl⟩⟩
  · have hlt : ∀ j c', j + 1 = i → l[j]? = some c' → cMk c' x < 0 := fun j c' hj _ => by omega
    refine call_gives (l01In_spec _ _ _ _) ?_
    refine ifnd (fun h => ret_gives (bad fun k => h ⟨k.1.1, k.1.2⟩) rfl) (fun h3 => ?_)
    refine call_gives (spec_IsName_spec _ hsz _) ?_
    refine ifnd (fun h => ret_gives (bad fun k => h k.2.1) rfl) (fun hnm => ?_)
    refine num64 (by omega) (by omega) ⟨i + 1, ⟨by omega, next ⟨⟨by omega, by omega⟩, hnm, hlt⟩⟩, by omega, ⟨⟨rfl, rfl, rfl, rfl, trivial⟩, trivial, rfl, rfl⟩⟩
theorem l10Contains_spec (s : ByteArray) : ∀ (x : T) {v : Value}, RepV μ x.tm.d v → Gives Tryz.prog 177 [v, .string s] μ (.bool (decide (x.hasSym s))) :=
  T.ind fun x ih v hv => by
    obtain ⟨base, cap, rfl, hsl⟩ := T.inv hv
    have hn := maxLen_le hsl.max
    refine Spec.mk Tryz.func177 (by kernel_rfl) ?_
    intro r
    refine loop_intro (fun i : Nat => i ≤ x.args.length ∧ ∀ j y, j < i → x.args[j]? = some y → ¬ y.hasSym s)
      (fun i => ⟨[(1, .val (.string s)), (2, .loc 0 r 0), (8, .val (.slice base x.args.length cap)), (9, .val (.int .i64 x.args.length)), (10, .val (.int .i64 i))], [(0, some (.cells r [.val (.int .i64 x.tm.kind), .val (.int .i64 x.tm.num), .val (.string x.tm.name), .val (.slice base x.args.length cap)] 44))], 1, μ, Mem.nil⟩) (fun i => x.args.length - i)
      0 ⟨by omega, fun j y hj => by omega⟩ (fun _ => ⟨rfl, rfl⟩) ⟨⟨rfl, rfl, rfl, rfl, rfl, trivial⟩, ⟨rfl, trivial⟩, rfl, rfl⟩ ?_
    rintro i ⟨hi, hno⟩
    refine ifd (fun h => ?_) (fun h => ?_)
    · obtain ⟨t, ht⟩ := at_some (l := x.args) (i := i) (by omega)
      obtain ⟨ad, p, hel, hto⟩ := T.arg hsl ht
      refine elem_intro hel ?_
      intro r2
      refine call_gives (ih t (mem_at ht) hto) ?_
      refine ifd (fun hy => ret_gives (isT ((T.hasSym_args s x).2 (.inr ⟨t, mem_at ht, hy⟩))) rfl) (fun hy => ?_)
      refine num64 (by omega) (by omega) ⟨i + 1, ⟨by omega, fun j y hj hy2 => ?_⟩, by omega, ⟨⟨rfl, rfl, rfl, rfl, rfl, trivial⟩, ⟨rfl, trivial⟩, rfl, rfl⟩⟩
      rcases Nat.lt_or_ge j i with h6 | h6
      · exact hno j y h6 hy2
      · obtain rfl : j = i := by omega
        rw [ht] at hy2; cases hy2; exact hy
    · obtain rfl : i = x.args.length := by omega
      have hn2 : ¬ ∃ y ∈ x.args, y.hasSym s := fun ⟨y, hy, h2⟩ => by
        obtain ⟨j, hj⟩ := List.mem_iff_getElem?.1 hy
        exact hno j y (List.getElem?_eq_some_iff.1 hj).1 hj h2
      refine ifd (fun h2 => ?_) (fun h2 => ret_gives (isF fun k => ((T.hasSym_args s x).1 k).elim (fun k => h2 k.1) hn2) rfl)
      refine ret_gives ?_ rfl
      congr 1
      rw [Bool.eq_iff_iff, decide_eq_true_eq, decide_eq_true_eq]
      exact ⟨fun k => (T.hasSym_args s x).2 (.inl ⟨h2, k⟩), fun k => ((T.hasSym_args s x).1 k).elim (fun k => k.2) fun k => absurd k hn2⟩
set_option maxHeartbeats 4000000 in
theorem l10Mark_spec {l : List Mk} {x : T} {v vx : Value} {tag : ByteArray} (hv : RepV μ (.sl 2 (l.map Mk.d)) v) (hx : RepV μ x.tm.d vx) (ha : Asc3 cMk l) (hb : l.length + x.vars.length ≤ 1000000000000) (hxs : x.vars.length ≤ 1000000) :
    Spec Tryz.prog 88 [v, vx, .string tag] μ fun r μ' => optMk (fun y tv => RepV μ' (.sl 2 (y.map Mk.d)) tv) (addM1 l x tag) r := by
  obtain ⟨ba, ca, rfl, _⟩ := T.inv hx
  refine Spec.mk Tryz.func88 (by kernel_rfl) ?_
  intro r4
  refine call_gives (l10Contains_spec tag x hx) ?_
  refine ifd (fun h => ret_plain (by rw [addM1, if_pos h]; rfl)) (fun hns => ?_)
  have hres : addM1 l x tag = some (ascOf cMk_ord (l ++ mksOf x tag)) := if_neg hns
  rw [hres]
  refine call_plain (l02Vars_spec x (l := []) hx (Rep.nilSl 1) (by simp; omega)) fun v1 μ1 hle1 hR => ?_
  obtain ⟨ns, hns1, hnm, hnl⟩ := hR
  simp only [List.length_nil, Nat.zero_add, List.not_mem_nil, or_false] at hnl hnm
  obtain ⟨bn, cn, rfl, hnsl⟩ := Rep.sl hns1
  rw [List.length_map] at hnsl ⊢
  refine loop_frz (fun q : Nat × List Mk × Value × Mem => q.1 ≤ ns.length ∧ μ1.Le q.2.2.2 ∧ RepV q.2.2.2 (.sl 2 (q.2.1.map Mk.d)) q.2.2.1 ∧ Asc3 cMk q.2.1 ∧ (∀ z, z ∈ q.2.1 ↔ z ∈ l ∨ ∃ n ∈ ns.take q.1, z = ⟨n, tag⟩) ∧ q.2.1.length ≤ l.length + q.1)
    (fun (i, m, w, μ') => ⟨[(0, .val w), (2, .val (.string tag)), (17, .val (.slice bn ns.length cn)), (18, .val (.int .i64 ns.length)), (19, .val (.int .i64 i))], [], 0, μ', Mem.nil⟩) (fun q => ns.length - q.1) []
    (fun (_, _, _, _) => ⟨rfl, rfl⟩) ⟨(0, l, v, μ1), ⟨Nat.zero_le _, Mem.Le.refl _, hv.mono hle1, ha, by simp, by simp⟩, ⟨rfl, rfl, rfl, rfl, rfl, trivial⟩, trivial, rfl, rfl⟩ ?_
  rintro ⟨i, m, w, μ'⟩ ⟨hi, hle, hw, ham, hmem, hml⟩
  dsimp only at hi hle hw ham hmem hml
  obtain ⟨base, cap, rfl, hsl⟩ := Rep.sl hw
  rw [List.length_map] at hsl hw ⊢
  obtain ⟨vs, hrows, hvl, hcap, hsrc⟩ := Rep.src hw
  refine ifd (fun hlt1 => ?_) (fun hlt1 => ?_)
  rotate_left
  · obtain rfl : i = ns.length := by omega
    rw [List.take_length] at hmem
    have : m = ascOf cMk_ord (l ++ mksOf x tag) := ascOf_eq _ ham fun z => by
      rw [hmem, List.mem_append, mem_mksOf]
      simp only [hnm]
    rw [← this]
    exact ret_plain ⟨_, rfl, hw⟩
  obtain ⟨n, hnn⟩ := at_some (l := ns) (i := i) (by omega)
  obtain ⟨ad, hel⟩ := Ints.elem (hnsl.mono hle) hnn
  refine elem_intro hel ?_
  intro r10
  refine loop_intro (fun k : Nat => k ≤ m.length ∧ ∀ z ∈ m.take k, cMk z ⟨n, tag⟩ < 0)
    (fun k => ⟨[(0, .val (.slice base m.length cap)), (2, .val (.string tag)), (10, .loc 0 r10 0), (11, .val (.int .i64 k)), (17, .val (.slice bn ns.length cn)), (18, .val (.int .i64 ns.length)), (19, .val (.int .i64 i))], [(0, some (.cells r10 [.val (.int .i64 n), .val (.string tag)] 116))], 1, μ', Mem.nil⟩) (fun k => m.length - k)
    0 ⟨by omega, by simp⟩ (fun _ => ⟨rfl, rfl⟩) ⟨⟨rfl, rfl, rfl, rfl, rfl, rfl, rfl, trivial⟩, ⟨rfl, trivial⟩, rfl, rfl⟩ ?_
  rintro k ⟨hk, hlt⟩
  refine ifd (fun h2 => ?_) (fun h2 => ?_)
  rotate_left
  · obtain ⟨k, rfl⟩ : ∃ k', k' = k := ⟨_, rfl⟩
    have hkl : k = m.length := by omega
    have hgt : ∀ z ∈ m.drop k, cMk ⟨n, tag⟩ z < 0 := by rw [hkl]; simp
    refine ifd (fun _ => ?_) (fun h => absurd (by omega) h)
    intro r52
    refine cut_intro 0 k rfl rfl (by omega) (by omega) ?_
    refine src_intro _ (hsrc 0 k (by omega) hk) ?_
    refine grow_intro ?_ ?_ fun b1 c1 _ => ?_
    · show (0 + _) * 24 ≤ _; simp; omega
    · exact Nat.le_trans (m := 2000000000000) (by simp; omega) (by decide)
    intro r59
    refine grow_intro ?_ ?_ fun b2 c2 _ => ?_
    · show (_ + 1) * 24 ≤ _; simp; omega
    · exact Nat.le_trans (m := 2000000000000) (by simp; omega) (by decide)
    refine cut_intro k m.length rfl rfl hk (by omega) ?_
    refine src_intro _ (hsrc k m.length hk (Nat.le_refl _)) ?_
    refine grow_intro ?_ ?_ fun b3 c3 _ => ?_
    · show (_ + _) * 24 ≤ _; simp; omega
    · exact Nat.le_trans (m := 3000000000000) (by simp; omega) (by decide)
    have hins : Asc3 cMk (insAt m ⟨n, tag⟩ k) := ham.ins cMk_ord hlt hgt
    refine num64 (by omega) (by omega) ⟨[1], fun μ5 hle5 hno5 hrow => ⟨(i + 1, insAt m ⟨n, tag⟩ k, _, μ5), ⟨by dsimp only; omega, hle.trans hle5, ?_, hins, fun z => ?_, ?_⟩, by dsimp only; omega, ⟨⟨rfl, rfl, rfl, rfl, rfl, trivial⟩, trivial, rfl, rfl⟩⟩⟩
    · dsimp only
      have hr2 := ((hrows.take k).append ((Rows.one (Mk.repV ⟨n, tag⟩) (Mk.d_n _)).append (hrows.drop k))).mono hle5
      have e : (([] : List Value) ++ (vs.drop 0).take (k - 0) ++ [.agg #[.int .i64 n, .string tag]] ++ (vs.drop k).take (m.length - k)) = vs.take k ++ ([(⟨n, tag⟩ : Mk).v] ++ vs.drop k) := by
        simp [Mk.v]
        rw [List.take_of_length_le (by simp; omega)]
      rw [e] at hrow ⊢
      have e2 : (insAt m ⟨n, tag⟩ k).map Mk.d = (m.map Mk.d).take k ++ ([Mk.d ⟨n, tag⟩] ++ (m.map Mk.d).drop k) := by simp [insAt]
      rw [e2]
      exact Rows.sl hrow hr2 (Nat.le_trans (m := 3000000000000) (by simp; omega) (by decide))
    · dsimp only
      rw [insAt_mem, hmem, List.take_add_one, hnn, Option.toList_some]
      constructor
      · rintro (rfl | h | ⟨y, hy, rfl⟩)
        · exact .inr ⟨n, by simp, rfl⟩
        · exact .inl h
        · exact .inr ⟨y, by simp [hy], rfl⟩
      · rintro (h | ⟨y, hy, rfl⟩)
        · exact .inr (.inl h)
        · rcases List.mem_append.1 hy with hy | hy
          · exact .inr (.inr ⟨y, hy, rfl⟩)
          · rw [List.mem_singleton.1 hy]; exact .inl rfl
    · dsimp only
      rw [insAt_length]; omega
  obtain ⟨c, hc⟩ := at_some (l := m) (i := k) (by omega)
  obtain ⟨ad2, p2, hel2, _⟩ := Mk.elem hsl hc
  refine elem_intro hel2 ?_
  refine call_gives (l10Less_spec c ⟨n, tag⟩) ?_
  refine ifd (fun h3 => ?_) (fun h3 => ?_)
  · refine num64 (by omega) (by omega) ⟨k + 1, ⟨by omega, ham.take_lt cMk_ord hc h3⟩, by omega, ⟨⟨rfl, rfl, rfl, rfl, rfl, rfl, rfl, trivial⟩, ⟨rfl, trivial⟩, rfl, rfl⟩⟩
  refine ifd (fun h => absurd h (by omega)) (fun _ => ?_)
  refine elem_intro hel2 ?_
  refine call_gives (l10Less_spec ⟨n, tag⟩ c) ?_
  refine ifd (fun h4 => ?_) (fun h4 => ?_)
  · have hgt := ham.drop_gt cMk_ord hc h4
    intro r52
    refine cut_intro 0 k rfl rfl (by omega) (by omega) ?_
    refine src_intro _ (hsrc 0 k (by omega) hk) ?_
    refine grow_intro ?_ ?_ fun b1 c1 _ => ?_
    · show (0 + _) * 24 ≤ _; simp; omega
    · exact Nat.le_trans (m := 2000000000000) (by simp; omega) (by decide)
    intro r59
    refine grow_intro ?_ ?_ fun b2 c2 _ => ?_
    · show (_ + 1) * 24 ≤ _; simp; omega
    · exact Nat.le_trans (m := 2000000000000) (by simp; omega) (by decide)
    refine cut_intro k m.length rfl rfl hk (by omega) ?_
    refine src_intro _ (hsrc k m.length hk (Nat.le_refl _)) ?_
    refine grow_intro ?_ ?_ fun b3 c3 _ => ?_
    · show (_ + _) * 24 ≤ _; simp; omega
    · exact Nat.le_trans (m := 3000000000000) (by simp; omega) (by decide)
    have hins : Asc3 cMk (insAt m ⟨n, tag⟩ k) := ham.ins cMk_ord hlt hgt
    refine num64 (by omega) (by omega) ⟨[1], fun μ5 hle5 hno5 hrow => ⟨(i + 1, insAt m ⟨n, tag⟩ k, _, μ5), ⟨by dsimp only; omega, hle.trans hle5, ?_, hins, fun z => ?_, ?_⟩, by dsimp only; omega, ⟨⟨rfl, rfl, rfl, rfl, rfl, trivial⟩, trivial, rfl, rfl⟩⟩⟩
    · dsimp only
      have hr2 := ((hrows.take k).append ((Rows.one (Mk.repV ⟨n, tag⟩) (Mk.d_n _)).append (hrows.drop k))).mono hle5
      have e : (([] : List Value) ++ (vs.drop 0).take (k - 0) ++ [.agg #[.int .i64 n, .string tag]] ++ (vs.drop k).take (m.length - k)) = vs.take k ++ ([(⟨n, tag⟩ : Mk).v] ++ vs.drop k) := by
        simp [Mk.v]
        rw [List.take_of_length_le (by simp; omega)]
      rw [e] at hrow ⊢
      have e2 : (insAt m ⟨n, tag⟩ k).map Mk.d = (m.map Mk.d).take k ++ ([Mk.d ⟨n, tag⟩] ++ (m.map Mk.d).drop k) := by simp [insAt]
      rw [e2]
      exact Rows.sl hrow hr2 (Nat.le_trans (m := 3000000000000) (by simp; omega) (by decide))
    · dsimp only
      rw [insAt_mem, hmem, List.take_add_one, hnn, Option.toList_some]
      constructor
      · rintro (rfl | h | ⟨y, hy, rfl⟩)
        · exact .inr ⟨n, by simp, rfl⟩
        · exact .inl h
        · exact .inr ⟨y, by simp [hy], rfl⟩
      · rintro (h | ⟨y, hy, rfl⟩)
        · exact .inr (.inl h)
        · rcases List.mem_append.1 hy with hy | hy
          · exact .inr (.inr ⟨y, hy, rfl⟩)
          · rw [List.mem_singleton.1 hy]; exact .inl rfl
    · dsimp only
      rw [insAt_length]; omega
  · have e0 : cMk c ⟨n, tag⟩ = 0 := by
      have := cMk_ord.anti ⟨n, tag⟩ c; omega
    have e1 := (cMk_ord.zero _ _).1 e0
    refine num64 (by omega) (by omega) ⟨[], (i + 1, m, _, μ'), ⟨by dsimp only; omega, hle, hw, ham, fun z => ?_, by dsimp only; omega⟩, by dsimp only; omega, ⟨⟨rfl, rfl, rfl, rfl, rfl, trivial⟩, trivial, rfl, rfl⟩⟩
    dsimp only
    rw [List.take_add_one, hnn, Option.toList_some]
    constructor
    · intro h
      rcases (hmem z).1 h with h | ⟨y, hy, rfl⟩
      · exact .inl h
      · exact .inr ⟨y, by simp [hy], rfl⟩
    · rintro (h | ⟨y, hy, rfl⟩)
      · exact (hmem z).2 (.inl h)
      · rcases List.mem_append.1 hy with hy | hy
        · exact (hmem _).2 (.inr ⟨y, hy, rfl⟩)
        · rw [List.mem_singleton.1 hy, ← e1]; exact mem_at hc
end
end Go.Vx

/- Marks as keys of a map. -/
namespace Go.Vx
open Go.Proofs Classical
def MkKey (v : Value) : Prop := ∃ m : Mk, GoodM m ∧ v = m.v
theorem Mk.v_inj {a b : Mk} (h : a.v = b.v) : a = b := by
  cases a; cases b
  simp only [Mk.v, Value.agg.injEq] at h
  simpa using h
theorem mk_law : WideMaps.KeyLaw Tryz.prog 116 := deep_law (m := 3) (by decide) (by kernel_rfl) (by kernel_rfl) (by kernel_rfl)
theorem mk_cells : Tryz.prog.cellsOf 116 = 2 := by kernel_rfl
theorem mk_cells1 : Tryz.prog.cellsOf 3 = 1 := by kernel_rfl
theorem mk_cells2 : Tryz.prog.cellsOf 9 = 1 := by kernel_rfl
theorem mk_ktype : Tryz.prog.keyType 116 = true := by kernel_rfl
theorem mk_size : Nat.ble 1 Tryz.prog.types.size = true := by kernel_rfl
theorem mk_keyOf {m : Mk} (h : GoodM m) : ∃ l, keyOf Tryz.prog 116 m.v = some l := by
  have hu := Tryz.underlying116
  have hi := Tryz.underlying3
  have hs := Tryz.underlying9
  have h2 : m.v.formed Tryz.prog 116 = true := by
    simp only [Mk.v, Value.formed, hu, mk_cells]
    rfl
  have hk : ∃ L, Tryz.prog.keyLits (Tryz.prog.types.size + 1) 116 m.v.cells.toList = some L := by
    obtain ⟨n, hn⟩ : ∃ n, Tryz.prog.types.size + 1 = n + 2 := ⟨Tryz.prog.types.size - 1, by have := Nat.le_of_ble_eq_true mk_size; omega⟩
    rw [hn]
    have hw : (Lit.int .i64 m.var).wf = true := by
      have := h.1
      simp [Lit.wf, IntKind.min, IntKind.max]
      exact ⟨decide_eq_true (show (-9223372036854775808 : Int) ≤ m.var by omega), decide_eq_true (show m.var ≤ (9223372036854775807 : Int) by omega)⟩
    have ht : m.tag.size ≤ maxLen := Nat.le_trans h.2.2.1 (by decide)
    simp only [Program.keyLits, hu, hi, hs, mk_cells, mk_cells1, mk_cells2, Mk.v, Value.cells]
    simp [hw, ht, mk_cells1, mk_cells2, hi, hs]
  obtain ⟨L, hL⟩ := hk
  refine ⟨.string (keyBytes L), ?_⟩
  unfold keyOf
  rw [hu]
  dsimp only
  rw [mk_ktype, h2, hL]
  rfl
end Go.Vx

/- Contracts: a row sorted by its owner's functions: insertion, turning round, a heap. -/
namespace Go.Vx
open Go.Proofs Classical
open Go.Sort
/-- The two functions that a sort is handed. -/
abbrev fdata (lf sf : FuncId) (lb sb : List Value) : Value := .agg #[.func (.func lf) #[] lb.toArray, .func (.func sf) #[] sb.toArray]
abbrev fblk (r : Nat) (lf sf : FuncId) (lb sb : List Value) : List (Nat × Option LB) := [(0, some (.cells r [.val (.func (.func lf) #[] lb.toArray), .val (.func (.func sf) #[] sb.toArray)] 209))]
/-- What those functions do: J d is the owned memory that holds the row d. -/
structure SortBy {α : Type} [Inhabited α] (lf sf : FuncId) (lb sb : List Value) (n : Nat) (lt : α → α → Bool) (μ0 : Mem) (J : Array α → Mem) (V : Array α → Prop) : Prop where
  max : n ≤ 1000000000000
  size : ∀ {d}, V d → d.size = n
  sw : ∀ {d : Array α} {i j : Nat}, V d → i < n → j < n → V (swp d i j)
  dom : ∀ {d d' : Array α} {b : Nat}, V d → V d' → J d b = none → J d' b = none
  less : ∀ {μ : Mem} {d : Array α} {i j : Nat}, μ0.Le μ → V d → i < n → j < n → SpecH Tryz.prog lf (.int .i64 i :: .int .i64 j :: lb) μ (J d) fun v μ' h' => v = .bool (lt d[i]! d[j]!) ∧ μ' = μ ∧ h' = J d
  swap : ∀ {μ : Mem} {d : Array α} {i j : Nat}, μ0.Le μ → V d → i < n → j < n → SpecH Tryz.prog sf (.int .i64 i :: .int .i64 j :: sb) μ (J d) fun v μ' h' => v = .tuple #[] ∧ μ' = μ ∧ h' = J (swp d i j)
section
variable {α : Type} [Inhabited α] {lf sf : FuncId} {lb sb : List Value} {n : Nat} {lt : α → α → Bool} {μ0 : Mem} {J : Array α → Mem} {V : Array α → Prop} {μ : Mem} {d : Array α}
theorem insertionSortF_spec (H : SortBy lf sf lb sb n lt μ0 J V) {a b : Nat} (hle : μ0.Le μ) (hV : V d) (ha : a ≤ b) (hb : b ≤ n) :
    SpecH Tryz.prog 269 [fdata lf sf lb sb, .int .i64 a, .int .i64 b] μ (J d) fun v μ' h' => v = .tuple #[] ∧ μ' = μ ∧ h' = J (insertionSort lt d a b) ∧ V (insertionSort lt d a b) := by
  have hn := H.max
  refine SpecH.mk [] Tryz.func269 (by kernel_rfl) ?_
  intro r1
  rw [insertionSort]
  generalize hD : insOuter lt a b (a + 1) d = D
  refine num_eq (x := ((a + 1 : Nat) : Int)) (by rw [wrap64 (by omega) (by omega)]; omega) ?_
  refine loop_intro (fun p : Nat × Array α => a + 1 ≤ p.1 ∧ p.1 ≤ max b (a + 1) ∧ V p.2 ∧ insOuter lt a b p.1 p.2 = D)
    (fun (i, d) => ⟨[(1, .val (.int .i64 a)), (2, .val (.int .i64 b)), (3, .loc 0 r1 0), (6, .val (.int .i64 i))], fblk r1 lf sf lb sb, 1, μ, J d⟩) (fun p => b - p.1)
    (a + 1, d) ⟨by omega, by omega, hV, hD⟩ (fun (_, _) => ⟨rfl, rfl⟩) ⟨⟨rfl, rfl, rfl, rfl, trivial⟩, ⟨rfl, trivial⟩, rfl, rfl⟩ ?_
  rintro ⟨i, d1⟩ ⟨hi1, hi2, hs, hJ⟩
  dsimp only at hi1 hi2 hs hJ
  rw [insOuter] at hJ
  refine ifd (fun h => ?_) (fun h => ?_)
  · rw [if_pos (by omega)] at hJ
    refine loop_intro (fun p : Nat × Array α => p.1 < n ∧ V p.2 ∧ insInner lt a p.1 p.2 = insInner lt a i d1)
      (fun (j, d) => ⟨[(1, .val (.int .i64 a)), (2, .val (.int .i64 b)), (3, .loc 0 r1 0), (6, .val (.int .i64 i)), (7, .val (.int .i64 j))], fblk r1 lf sf lb sb, 1, μ, J d⟩) (fun p => p.1)
      (i, d1) ⟨by omega, hs, rfl⟩ (fun (_, _) => ⟨rfl, rfl⟩) ⟨⟨rfl, rfl, rfl, rfl, rfl, trivial⟩, ⟨rfl, trivial⟩, rfl, rfl⟩ ?_
    rintro ⟨j, d2⟩ ⟨hj, hs2, hJ2⟩
    dsimp only at hj hs2 hJ2
    refine ifd (fun hja => ?_) (fun hja => ?_)
    · obtain ⟨j, rfl⟩ : ∃ k, j = k + 1 := ⟨j - 1, by omega⟩
      rw [insInner] at hJ2
      refine num_eq (x := ((j : Nat) : Int)) (by rw [wrap64 (by omega) (by omega)]; omega) ?_
      refine call_own (H.less hle hs2 (i := j + 1) (j := j) (by omega) (by omega)) fun v μ' h' hle' hap hR => ?_
      obtain ⟨rfl, e2, rfl⟩ := hR
      obtain rfl := e2.symm
      clear hle' hap
      have g : decide (j + 1 > a) = true := decide_eq_true (by omega)
      refine if_intro (fun hl => ?_) (fun hl => ?_)
      · rw [g, hl, Bool.and_self, if_pos rfl] at hJ2
        refine num_eq (x := ((j : Nat) : Int)) (by rw [wrap64 (by omega) (by omega)]; omega) ?_
        refine call_own (H.swap hle hs2 (i := j + 1) (j := j) (by omega) (by omega)) fun v μ' h' hle' hap hR => ?_
        obtain ⟨rfl, e2, rfl⟩ := hR
        obtain rfl := e2.symm
        clear hle' hap
        refine num_eq (x := ((j : Nat) : Int)) (by rw [wrap64 (by omega) (by omega)]; omega) ?_
        exact ⟨(j, swp d2 (j + 1) j), ⟨by dsimp only; omega, H.sw hs2 (by omega) (by omega), hJ2⟩, by dsimp only; omega, ⟨⟨rfl, rfl, rfl, rfl, rfl, trivial⟩, ⟨rfl, trivial⟩, rfl, rfl⟩⟩
      · rw [hl, Bool.and_false, if_neg (by simp)] at hJ2
        exact num64 (by omega) (by omega) ⟨(i + 1, d2), ⟨by dsimp only; omega, by dsimp only; omega, hs2, by dsimp only; rw [hJ2]; exact hJ⟩, by dsimp only; omega, ⟨⟨rfl, rfl, rfl, rfl, trivial⟩, ⟨rfl, trivial⟩, rfl, rfl⟩⟩
    · have hJ3 : insInner lt a j d2 = d2 := by
        cases j with
        | zero => rfl
        | succ j => rw [insInner, if_neg]; simp; omega
      rw [hJ3] at hJ2
      exact num64 (by omega) (by omega) ⟨(i + 1, d2), ⟨by dsimp only; omega, by dsimp only; omega, hs2, by dsimp only; rw [hJ2]; exact hJ⟩, by dsimp only; omega, ⟨⟨rfl, rfl, rfl, rfl, trivial⟩, ⟨rfl, trivial⟩, rfl, rfl⟩⟩
  · rw [if_neg (by omega)] at hJ
    subst hJ
    exact ret_plain ⟨rfl, rfl, rfl, hs⟩
theorem reverseRangeF_spec (H : SortBy lf sf lb sb n lt μ0 J V) {a b : Nat} (hle : μ0.Le μ) (hV : V d) (hb1 : 1 ≤ b) (ha : a ≤ b) (hb : b ≤ n) :
    SpecH Tryz.prog 273 [fdata lf sf lb sb, .int .i64 a, .int .i64 b] μ (J d) fun v μ' h' => v = .tuple #[] ∧ μ' = μ ∧ h' = J (reverseRange d a b) ∧ V (reverseRange d a b) := by
  have hn := H.max
  refine SpecH.mk [] Tryz.func273 (by kernel_rfl) ?_
  intro r1
  rw [reverseRange]
  generalize hD : reverseLoop a (b - 1) d = D
  refine num_eq (x := ((b - 1 : Nat) : Int)) (by rw [wrap64 (by omega) (by omega)]; omega) ?_
  refine loop_intro (fun p : Nat × Nat × Array α => p.2.1 < n ∧ p.1 ≤ n ∧ V p.2.2 ∧ reverseLoop p.1 p.2.1 p.2.2 = D)
    (fun (i, j, d) => ⟨[(3, .loc 0 r1 0), (6, .val (.int .i64 i)), (7, .val (.int .i64 j))], fblk r1 lf sf lb sb, 1, μ, J d⟩) (fun p => p.2.1)
    (a, b - 1, d) ⟨by dsimp only; omega, by dsimp only; omega, hV, hD⟩ (fun (_, _, _) => ⟨rfl, rfl⟩) ⟨⟨rfl, rfl, rfl, trivial⟩, ⟨rfl, trivial⟩, rfl, rfl⟩ ?_
  rintro ⟨i, j, d1⟩ ⟨hj, hi, hs, hJ⟩
  dsimp only at hj hi hs hJ
  rw [reverseLoop] at hJ
  refine ifd (fun h => ?_) (fun h => ?_)
  · rw [if_pos (by omega)] at hJ
    refine call_own (H.swap hle hs (i := i) (j := j) (by omega) (by omega)) fun v μ' h' hle' hap hR => ?_
    obtain ⟨rfl, e2, rfl⟩ := hR
    obtain rfl := e2.symm
    clear hle' hap
    refine num_eq (x := ((i + 1 : Nat) : Int)) (by rw [wrap64 (by omega) (by omega)]; omega) ?_
    refine num_eq (x := ((j - 1 : Nat) : Int)) (by rw [wrap64 (by omega) (by omega)]; omega) ?_
    exact ⟨(i + 1, j - 1, swp d1 i j), ⟨by dsimp only; omega, by dsimp only; omega, H.sw hs (by omega) (by omega), hJ⟩, by dsimp only; omega, ⟨⟨rfl, rfl, rfl, trivial⟩, ⟨rfl, trivial⟩, rfl, rfl⟩⟩
  · rw [if_neg (by omega)] at hJ
    subst hJ
    exact ret_plain ⟨rfl, rfl, rfl, hs⟩
theorem siftDownF_spec (H : SortBy lf sf lb sb n lt μ0 J V) {lo hi first : Nat} (hle : μ0.Le μ) (hV : V d) (hb : first + hi ≤ n) (hl : lo ≤ n) :
    SpecH Tryz.prog 311 [fdata lf sf lb sb, .int .i64 lo, .int .i64 hi, .int .i64 first] μ (J d) fun v μ' h' => v = .tuple #[] ∧ μ' = μ ∧ h' = J (siftDown lt hi first lo d) ∧ V (siftDown lt hi first lo d) := by
  have hn := H.max
  refine SpecH.mk [] Tryz.func311 (by kernel_rfl) ?_
  intro r1
  generalize hD : siftDown lt hi first lo d = D
  refine loop_intro (fun p : Nat × Array α => p.1 ≤ n ∧ V p.2 ∧ siftDown lt hi first p.1 p.2 = D)
    (fun (i, d) => ⟨[(2, .val (.int .i64 hi)), (3, .val (.int .i64 first)), (4, .loc 0 r1 0), (8, .val (.int .i64 i))], fblk r1 lf sf lb sb, 1, μ, J d⟩) (fun p => hi - p.1)
    (lo, d) ⟨hl, hV, hD⟩ (fun (_, _) => ⟨rfl, rfl⟩) ⟨⟨rfl, rfl, rfl, rfl, trivial⟩, ⟨rfl, trivial⟩, rfl, rfl⟩ ?_
  rintro ⟨i, d1⟩ ⟨hi1, hs, hJ⟩
  dsimp only at hi1 hs hJ
  rw [siftDown] at hJ
  refine num_eq (x := ((2 * i : Nat) : Int)) (by rw [wrap64 (by omega) (by omega)]; omega) ?_
  refine num_eq (x := ((2 * i + 1 : Nat) : Int)) (by rw [wrap64 (by omega) (by omega)]; omega) ?_
  refine ifd (fun h => ?_) (fun h => ?_)
  · rw [dif_pos (by omega)] at hJ
    subst hJ
    exact ret_plain ⟨rfl, rfl, rfl, hs⟩
  rw [dif_neg (by omega)] at hJ
  refine num_eq (x := ((2 * i + 1 + 1 : Nat) : Int)) (by rw [wrap64 (by omega) (by omega)]; omega) ?_
  refine ifd (fun h2 => ?_) (fun h2 => ?_)
  · refine num_eq (x := ((first + (2 * i + 1) : Nat) : Int)) (by rw [wrap64 (by omega) (by omega)]; omega) ?_
    refine num_eq (x := ((first + (2 * i + 1) : Nat) : Int)) (by rw [wrap64 (by omega) (by omega)]; omega) ?_
    refine num_eq (x := ((first + (2 * i + 1) + 1 : Nat) : Int)) (by rw [wrap64 (by omega) (by omega)]; omega) ?_
    refine call_own (H.less hle hs (i := first + (2 * i + 1)) (j := first + (2 * i + 1) + 1) (by omega) (by omega)) fun v μ' h' hle' hap hR => ?_
    obtain ⟨rfl, e2, rfl⟩ := hR
    obtain rfl := e2.symm
    clear hle' hap
    have g : decide (2 * i + 1 + 1 < hi) = true := decide_eq_true (by omega)
    refine if_intro (fun hl => ?_) (fun hl => ?_)
    · rw [g, hl, Bool.and_self, if_pos rfl] at hJ
      refine num_eq (x := ((2 * i + 2 : Nat) : Int)) (by rw [wrap64 (by omega) (by omega)]; omega) ?_
      refine num_eq (x := ((first + i : Nat) : Int)) (by rw [wrap64 (by omega) (by omega)]; omega) ?_
      refine num_eq (x := ((first + (2 * i + 2) : Nat) : Int)) (by rw [wrap64 (by omega) (by omega)]; omega) ?_
      refine call_own (H.less hle hs (i := first + i) (j := first + (2 * i + 2)) (by omega) (by omega)) fun v μ' h' hle' hap hR => ?_
      obtain ⟨rfl, e2, rfl⟩ := hR
      obtain rfl := e2.symm
      clear hle' hap
      refine if_intro (fun hl => ?_) (fun hl => ?_)
      · rw [if_pos (by simpa using hl)] at hJ
        subst hJ
        exact ret_plain ⟨rfl, rfl, rfl, hs⟩
      · rw [if_neg (by simpa using hl)] at hJ
        try rw [dif_pos (by omega)] at hJ
        refine num_eq (x := ((first + i : Nat) : Int)) (by rw [wrap64 (by omega) (by omega)]; omega) ?_
        refine num_eq (x := ((first + (2 * i + 2) : Nat) : Int)) (by rw [wrap64 (by omega) (by omega)]; omega) ?_
        refine call_own (H.swap hle hs (i := first + i) (j := first + (2 * i + 2)) (by omega) (by omega)) fun v μ' h' hle' hap hR => ?_
        obtain ⟨rfl, e2, rfl⟩ := hR
        obtain rfl := e2.symm
        clear hle' hap
        exact ⟨(2 * i + 2, swp d1 (first + i) (first + (2 * i + 2))), ⟨by dsimp only; omega, H.sw hs (by omega) (by omega), hJ⟩, by dsimp only; omega, ⟨⟨rfl, rfl, rfl, rfl, trivial⟩, ⟨rfl, trivial⟩, rfl, rfl⟩⟩
    · rw [hl, Bool.and_false, if_neg (by simp)] at hJ
      refine num_eq (x := ((first + i : Nat) : Int)) (by rw [wrap64 (by omega) (by omega)]; omega) ?_
      refine num_eq (x := ((first + (2 * i + 1) : Nat) : Int)) (by rw [wrap64 (by omega) (by omega)]; omega) ?_
      refine call_own (H.less hle hs (i := first + i) (j := first + (2 * i + 1)) (by omega) (by omega)) fun v μ' h' hle' hap hR => ?_
      obtain ⟨rfl, e2, rfl⟩ := hR
      obtain rfl := e2.symm
      clear hle' hap
      refine if_intro (fun hl => ?_) (fun hl => ?_)
      · rw [if_pos (by simpa using hl)] at hJ
        subst hJ
        exact ret_plain ⟨rfl, rfl, rfl, hs⟩
      · rw [if_neg (by simpa using hl)] at hJ
        try rw [dif_pos (by omega)] at hJ
        refine num_eq (x := ((first + i : Nat) : Int)) (by rw [wrap64 (by omega) (by omega)]; omega) ?_
        refine num_eq (x := ((first + (2 * i + 1) : Nat) : Int)) (by rw [wrap64 (by omega) (by omega)]; omega) ?_
        refine call_own (H.swap hle hs (i := first + i) (j := first + (2 * i + 1)) (by omega) (by omega)) fun v μ' h' hle' hap hR => ?_
        obtain ⟨rfl, e2, rfl⟩ := hR
        obtain rfl := e2.symm
        clear hle' hap
        exact ⟨(2 * i + 1, swp d1 (first + i) (first + (2 * i + 1))), ⟨by dsimp only; omega, H.sw hs (by omega) (by omega), hJ⟩, by dsimp only; omega, ⟨⟨rfl, rfl, rfl, rfl, trivial⟩, ⟨rfl, trivial⟩, rfl, rfl⟩⟩
  · have g : decide (2 * i + 1 + 1 < hi) = false := decide_eq_false (by omega)
    rw [g, Bool.false_and, if_neg (by simp)] at hJ
    refine num_eq (x := ((first + i : Nat) : Int)) (by rw [wrap64 (by omega) (by omega)]; omega) ?_
    refine num_eq (x := ((first + (2 * i + 1) : Nat) : Int)) (by rw [wrap64 (by omega) (by omega)]; omega) ?_
    refine call_own (H.less hle hs (i := first + i) (j := first + (2 * i + 1)) (by omega) (by omega)) fun v μ' h' hle' hap hR => ?_
    obtain ⟨rfl, e2, rfl⟩ := hR
    obtain rfl := e2.symm
    clear hle' hap
    refine if_intro (fun hl => ?_) (fun hl => ?_)
    · rw [if_pos (by simpa using hl)] at hJ
      subst hJ
      exact ret_plain ⟨rfl, rfl, rfl, hs⟩
    · rw [if_neg (by simpa using hl)] at hJ
      try rw [dif_pos (by omega)] at hJ
      refine num_eq (x := ((first + i : Nat) : Int)) (by rw [wrap64 (by omega) (by omega)]; omega) ?_
      refine num_eq (x := ((first + (2 * i + 1) : Nat) : Int)) (by rw [wrap64 (by omega) (by omega)]; omega) ?_
      refine call_own (H.swap hle hs (i := first + i) (j := first + (2 * i + 1)) (by omega) (by omega)) fun v μ' h' hle' hap hR => ?_
      obtain ⟨rfl, e2, rfl⟩ := hR
      obtain rfl := e2.symm
      clear hle' hap
      exact ⟨(2 * i + 1, swp d1 (first + i) (first + (2 * i + 1))), ⟨by dsimp only; omega, H.sw hs (by omega) (by omega), hJ⟩, by dsimp only; omega, ⟨⟨rfl, rfl, rfl, rfl, trivial⟩, ⟨rfl, trivial⟩, rfl, rfl⟩⟩
theorem heapSortF_spec (H : SortBy lf sf lb sb n lt μ0 J V) {a b : Nat} (hle : μ0.Le μ) (hV : V d) (ha : a < b) (hb : b ≤ n) :
    SpecH Tryz.prog 270 [fdata lf sf lb sb, .int .i64 a, .int .i64 b] μ (J d) fun v μ' h' => v = .tuple #[] ∧ μ' = μ ∧ h' = J (heapSort lt d a b) ∧ V (heapSort lt d a b) := by
  have hn := H.max
  refine SpecH.mk [] Tryz.func270 (by kernel_rfl) ?_
  intro r1
  rw [heapSort]
  generalize hD1 : heapBuild lt (b - a) a ((b - a - 1) / 2 + 1) d = D1
  generalize hD : heapPop lt a (b - a) D1 = D
  refine num_eq (x := ((b - a : Nat) : Int)) (by rw [wrap64 (by omega) (by omega)]; omega) ?_
  refine num_eq (x := ((b - a - 1 : Nat) : Int)) (by rw [wrap64 (by omega) (by omega)]; omega) ?_
  refine need_intro (by decide) ?_
  refine num_eq (x := (((b - a - 1) / 2 + 1 : Nat) : Int) - 1) (by rw [Int.tdiv_eq_ediv_of_nonneg (by omega), wrap64 (by omega) (by omega)]; omega) ?_
  refine loop_intro (fun p : Nat × Array α => p.1 ≤ b - a ∧ V p.2 ∧ heapBuild lt (b - a) a p.1 p.2 = D1)
    (fun (k, d) => ⟨[(3, .loc 0 r1 0), (6, .val (.int .i64 a)), (7, .val (.int .i64 0)), (8, .val (.int .i64 (b - a : Nat))), (9, .val (.int .i64 ((k : Int) - 1)))], fblk r1 lf sf lb sb, 1, μ, J d⟩) (fun p => p.1)
    ((b - a - 1) / 2 + 1, d) ⟨by dsimp only; omega, hV, hD1⟩ (fun (_, _) => ⟨rfl, rfl⟩) ⟨⟨rfl, rfl, rfl, rfl, rfl, trivial⟩, ⟨rfl, trivial⟩, rfl, rfl⟩ ?_
  rintro ⟨k, d1⟩ ⟨hk, hs, hJ⟩
  dsimp only at hk hs hJ
  refine ifd (fun h => ?_) (fun h => ?_)
  · obtain ⟨k, rfl⟩ : ∃ m, k = m + 1 := ⟨k - 1, by omega⟩
    rw [heapBuild] at hJ
    have e : (((k + 1 : Nat) : Int) - 1) = (k : Nat) := by omega
    rw [e]
    refine call_own (siftDownF_spec H (lo := k) (hi := b - a) (first := a) hle hs (by omega) (by omega)) fun v μ' h' hle' hap hR => ?_
    obtain ⟨rfl, e2, rfl, hs2⟩ := hR
    obtain rfl := e2.symm
    refine num_eq (x := (k : Int) - 1) (by rw [wrap64 (by omega) (by omega)]) ?_
    exact ⟨(k, siftDown lt (b - a) a k d1), ⟨by dsimp only; omega, hs2, hJ⟩, by dsimp only; omega, ⟨⟨rfl, rfl, rfl, rfl, rfl, trivial⟩, ⟨rfl, trivial⟩, rfl, rfl⟩⟩
  obtain rfl : k = 0 := by omega
  have hJ : d1 = D1 := hJ
  subst hJ
  refine num_eq (x := ((b - a : Nat) : Int) - 1) (by rw [wrap64 (by omega) (by omega)]) ?_
  refine loop_intro (fun p : Nat × Array α => p.1 ≤ b - a ∧ V p.2 ∧ heapPop lt a p.1 p.2 = D)
    (fun (k, d) => ⟨[(3, .loc 0 r1 0), (6, .val (.int .i64 a)), (7, .val (.int .i64 0)), (10, .val (.int .i64 ((k : Int) - 1)))], fblk r1 lf sf lb sb, 1, μ, J d⟩) (fun p => p.1)
    (b - a, d1) ⟨by dsimp only; omega, hs, hD⟩ (fun (_, _) => ⟨rfl, rfl⟩) ⟨⟨rfl, rfl, rfl, rfl, trivial⟩, ⟨rfl, trivial⟩, rfl, rfl⟩ ?_
  rintro ⟨k, d2⟩ ⟨hk, hs2, hJ⟩
  dsimp only at hk hs2 hJ
  refine ifd (fun h => ?_) (fun h => ?_)
  · obtain ⟨k, rfl⟩ : ∃ m, k = m + 1 := ⟨k - 1, by omega⟩
    rw [heapPop] at hJ
    have e : (((k + 1 : Nat) : Int) - 1) = (k : Nat) := by omega
    rw [e]
    refine num_eq (x := ((a + k : Nat) : Int)) (by rw [wrap64 (by omega) (by omega)]; omega) ?_
    refine call_own (H.swap hle hs2 (i := a) (j := a + k) (by omega) (by omega)) fun v μ' h' hle' hap hR => ?_
    obtain ⟨rfl, e2, rfl⟩ := hR
    obtain rfl := e2.symm
    clear hle' hap
    refine call_own (siftDownF_spec H (d := swp d2 a (a + k)) (lo := 0) (hi := k) (first := a) hle (H.sw hs2 (by omega) (by omega)) (by omega) (by omega)) fun v μ' h' hle' hap hR => ?_
    obtain ⟨rfl, e2, rfl, hs3⟩ := hR
    obtain rfl := e2.symm
    refine num_eq (x := (k : Int) - 1) (by rw [wrap64 (by omega) (by omega)]) ?_
    exact ⟨(k, _), ⟨by dsimp only; omega, hs3, hJ⟩, by dsimp only; omega, ⟨⟨rfl, rfl, rfl, rfl, trivial⟩, ⟨rfl, trivial⟩, rfl, rfl⟩⟩
  obtain rfl : k = 0 := by omega
  have hJ : d2 = D := hJ
  subst hJ
  exact ret_plain ⟨rfl, rfl, rfl, hs2⟩
end
end Go.Vx

/- Contracts: the choice of a pivot, by the owner's functions. -/
namespace Go.Vx
open Go.Proofs Classical
open Go.Sort
theorem parts_set {g : Mem} {r : Nat} {o : Obj} (h : g r = none) : Parts (g.set r o) (Mem.nil.set r o) g := fun b => by
  by_cases e : b = r
  · subst e; exact .inl ⟨by rw [Mem.set_at, Mem.set_at], h⟩
  · exact .inr ⟨by rw [Mem.set_ne e], by rw [Mem.set_ne e]; rfl⟩
section
variable {α : Type} {J : Array α → Mem} {μ : Mem} {d : Array α} {rs : Nat} {s : Int}
/-- A row beside a counter. -/
abbrev JS (J : Array α → Mem) (rs : Nat) (s : Int) (d : Array α) : Mem := (J d).set rs (.cells #[.int .i64 s] 3 (0, 0))
theorem rdC {K : List Value → Prop} (h : K [.int .i64 s]) : extVC μ (JS J rs s d) ⟨rs, 0, none⟩ 1 K := own_intro _ rfl (box_at (Mem.set_at _ _ _)) h
theorem wrC {v : Int} {K : Mem → Prop} (h : K (JS J rs v d)) : stoVC (JS J rs s d) ⟨rs, 0, none⟩ [.int .i64 v] K := by
  refine sto_intro [.int .i64 s] 3 (Mem.set_at _ _ _) rfl (Nat.le_refl _) ?_
  have e : Mem.set (JS J rs s d) rs (.cells #[.int .i64 v] 3 (0, 0)) = JS J rs v d := by rw [Mem.set_set]
  show K (Mem.set (JS J rs s d) rs (.cells #[.int .i64 v] 3 (0, 0)))
  rw [e]; exact h
end
section
variable {α : Type} [Inhabited α] {lf sf : FuncId} {lb sb : List Value} {n : Nat} {lt : α → α → Bool} {μ0 : Mem} {J : Array α → Mem} {V : Array α → Prop} {μ : Mem} {d : Array α} {rs : Nat} {s : Int}
/-- The same beside a block of one's own. -/
theorem SortBy.beside (H : SortBy lf sf lb sb n lt μ0 J V) (o : Obj) (h : ∀ d, V d → J d rs = none) : SortBy lf sf lb sb n lt μ0 (fun d => (J d).set rs o) V where
  max := H.max
  size := H.size
  sw := H.sw
  dom hV hV' hb := by
    simp only [Mem.set_get] at hb ⊢
    split at hb
    · cases hb
    · rename_i e; rw [if_neg e]; exact H.dom hV hV' hb
  less hle hV hi hj := (SpecH.frame (parts_set (h _ hV)).symm (H.less hle hV hi hj)).weaken fun v μ' h' _ _ ⟨g, ⟨e1, e2, e3⟩, p⟩ => ⟨e1, e2, by rw [e3] at p; exact p.eq (parts_set (h _ hV)).symm⟩
  swap hle hV hi hj := (SpecH.frame (parts_set (h _ hV)).symm (H.swap hle hV hi hj)).weaken fun v μ' h' _ _ ⟨g, ⟨e1, e2, e3⟩, p⟩ => ⟨e1, e2, by rw [e3] at p; exact p.eq (parts_set (h _ (H.sw hV hi hj))).symm⟩
theorem order2F_spec (H : ∀ s, SortBy lf sf lb sb n lt μ0 (JS J rs s) V) {a b : Nat} (hle : μ0.Le μ) (hV : V d) (ha : a < n) (hb : b < n) :
    SpecH Tryz.prog 333 [fdata lf sf lb sb, .int .i64 a, .int .i64 b, .pointer (some ⟨rs, 0, none⟩)] μ (JS J rs s d) fun v μ' h' =>
      ∃ x y : Nat, ((x = a ∧ y = b) ∨ (x = b ∧ y = a)) ∧ v = .tuple #[.int .i64 x, .int .i64 y] ∧ μ' = μ ∧ ∃ s', h' = JS J rs s' d := by
  refine SpecH.mk [] Tryz.func333 (by kernel_rfl) ?_
  intro r1
  refine call_own ((H s).less hle hV (i := b) (j := a) hb ha) fun v μ' h' hle' hap hR => ?_
  obtain ⟨rfl, e2, rfl⟩ := hR
  obtain rfl := e2.symm
  refine if_intro (fun hl => ?_) (fun hl => ?_)
  · refine rdC ?_
    refine num_intro fun x _ => ?_
    refine wrC ?_
    exact ret_plain ⟨b, a, .inr ⟨rfl, rfl⟩, rfl, rfl, _, rfl⟩
  · exact ret_plain ⟨a, b, .inl ⟨rfl, rfl⟩, rfl, rfl, _, rfl⟩
theorem medianF_spec (H : ∀ s, SortBy lf sf lb sb n lt μ0 (JS J rs s) V) {a b c : Nat} (hle : μ0.Le μ) (hV : V d) (ha : a < n) (hb : b < n) (hc : c < n) :
    SpecH Tryz.prog 315 [fdata lf sf lb sb, .int .i64 a, .int .i64 b, .int .i64 c, .pointer (some ⟨rs, 0, none⟩)] μ (JS J rs s d) fun v μ' h' =>
      ∃ x : Nat, (x = a ∨ x = b ∨ x = c) ∧ v = .int .i64 x ∧ μ' = μ ∧ ∃ s', h' = JS J rs s' d := by
  refine SpecH.mk [] Tryz.func315 (by kernel_rfl) ?_
  intro r1
  refine call_own (order2F_spec H hle hV ha hb) fun v μ' h' hle' hap hR => ?_
  obtain ⟨x1, y1, o1, rfl, e1, s1, rfl⟩ := hR
  obtain rfl := e1.symm
  refine call_own (order2F_spec H (a := y1) (b := c) hle hV (by omega) hc) fun v μ' h' hle' hap hR => ?_
  obtain ⟨x2, y2, o2, rfl, e2, s2, rfl⟩ := hR
  obtain rfl := e2.symm
  refine call_own (order2F_spec H (a := x1) (b := x2) hle hV (by omega) (by omega)) fun v μ' h' hle' hap hR => ?_
  obtain ⟨x3, y3, o3, rfl, e3, s3, rfl⟩ := hR
  obtain rfl := e3.symm
  exact ret_plain ⟨y3, by omega, rfl, rfl, _, rfl⟩
theorem medianAdjacentF_spec (H : ∀ s, SortBy lf sf lb sb n lt μ0 (JS J rs s) V) {a : Nat} (hle : μ0.Le μ) (hV : V d) (ha : 1 ≤ a) (hb : a + 1 < n) :
    SpecH Tryz.prog 314 [fdata lf sf lb sb, .int .i64 a, .pointer (some ⟨rs, 0, none⟩)] μ (JS J rs s d) fun v μ' h' =>
      ∃ x : Nat, (x + 1 = a ∨ x = a ∨ x = a + 1) ∧ v = .int .i64 x ∧ μ' = μ ∧ ∃ s', h' = JS J rs s' d := by
  have hn := (H 0).max
  refine SpecH.mk [] Tryz.func314 (by kernel_rfl) ?_
  intro r1
  refine num_eq (x := ((a - 1 : Nat) : Int)) (by rw [wrap64 (by omega) (by omega)]; omega) ?_
  refine num_eq (x := ((a + 1 : Nat) : Int)) (by rw [wrap64 (by omega) (by omega)]; omega) ?_
  refine call_own (medianF_spec H (a := a - 1) (b := a) (c := a + 1) hle hV (by omega) (by omega) (by omega)) fun v μ' h' hle' hap hR => ?_
  obtain ⟨x1, o1, rfl, e1, s1, rfl⟩ := hR
  obtain rfl := e1.symm
  exact ret_plain ⟨x1, by omega, rfl, rfl, _, rfl⟩
set_option maxHeartbeats 4000000 in
theorem choosePivotF_spec (H : SortBy lf sf lb sb n lt μ0 J V) {a b : Nat} (hle : μ0.Le μ) (hV : V d) (ha : a < b) (hb : b ≤ n) :
    SpecH Tryz.prog 272 [fdata lf sf lb sb, .int .i64 a, .int .i64 b] μ (J d) fun v μ' h' =>
      ∃ p k : Nat, a ≤ p ∧ p < b ∧ k ≤ 2 ∧ v = .tuple #[.int .i64 p, .int .i64 k] ∧ h' = J d := by
  have hn := H.max
  refine SpecH.mk [9] Tryz.func272 (by kernel_rfl) ?_
  intro r1
  refine num_eq (x := ((b - a : Nat) : Int)) (by rw [wrap64 (by omega) (by omega)]; omega) ?_
  intro rs hm ho
  have hdom : ∀ d', V d' → J d' rs = none := fun d' hV' => H.dom hV hV' ho
  have H2 : ∀ s, SortBy lf sf lb sb n lt μ0 (JS J rs s) V := fun s => H.beside _ hdom
  have hp : ∀ s, Parts (JS J rs s d) (Mem.nil.set rs (.cells #[.int .i64 s] 3 (0, 0))) (J d) := fun s => parts_set (hdom d hV)
  generalize hH : Mem.set (J d) rs _ = H1
  obtain rfl : H1 = JS J rs 0 d := hH.symm
  clear hH hm
  refine need_intro (by decide) ?_
  refine num_eq (x := (((b - a) / 4 : Nat) : Int)) (by rw [Int.tdiv_eq_ediv_of_nonneg (by omega), wrap64 (by omega) (by omega)]; omega) ?_
  refine num_eq (x := (((b - a) / 4 * 1 : Nat) : Int)) (by rw [wrap64 (by omega) (by omega)]; omega) ?_
  refine num_eq (x := ((a + (b - a) / 4 * 1 : Nat) : Int)) (by rw [wrap64 (by omega) (by omega)]; omega) ?_
  refine need_intro (by decide) ?_
  refine num_eq (x := (((b - a) / 4 : Nat) : Int)) (by rw [Int.tdiv_eq_ediv_of_nonneg (by omega), wrap64 (by omega) (by omega)]; omega) ?_
  refine num_eq (x := (((b - a) / 4 * 2 : Nat) : Int)) (by rw [wrap64 (by omega) (by omega)]; omega) ?_
  refine num_eq (x := ((a + (b - a) / 4 * 2 : Nat) : Int)) (by rw [wrap64 (by omega) (by omega)]; omega) ?_
  refine need_intro (by decide) ?_
  refine num_eq (x := (((b - a) / 4 : Nat) : Int)) (by rw [Int.tdiv_eq_ediv_of_nonneg (by omega), wrap64 (by omega) (by omega)]; omega) ?_
  refine num_eq (x := (((b - a) / 4 * 3 : Nat) : Int)) (by rw [wrap64 (by omega) (by omega)]; omega) ?_
  refine num_eq (x := ((a + (b - a) / 4 * 3 : Nat) : Int)) (by rw [wrap64 (by omega) (by omega)]; omega) ?_
  refine ifd (fun h8 => ?_) (fun h8 => ?_)
  · refine ifd (fun h50 => ?_) (fun h50 => ?_)
    · refine call_own (medianAdjacentF_spec H2 (a := a + (b - a) / 4 * 1) hle hV (by omega) (by omega)) fun v μ' h' hle' hap hR => ?_
      obtain ⟨x1, o1, rfl, e1, s1, rfl⟩ := hR
      obtain rfl := e1.symm
      refine call_own (medianAdjacentF_spec H2 (a := a + (b - a) / 4 * 2) hle hV (by omega) (by omega)) fun v μ' h' hle' hap hR => ?_
      obtain ⟨x2, o2, rfl, e1, s2, rfl⟩ := hR
      obtain rfl := e1.symm
      refine call_own (medianAdjacentF_spec H2 (a := a + (b - a) / 4 * 3) hle hV (by omega) (by omega)) fun v μ' h' hle' hap hR => ?_
      obtain ⟨x3, o3, rfl, e1, s3, rfl⟩ := hR
      obtain rfl := e1.symm
      refine call_own (medianF_spec H2 (a := x1) (b := x2) (c := x3) hle hV (by omega) (by omega) (by omega)) fun v μ' h' hle' hap hR => ?_
      obtain ⟨x4, o4, rfl, e1, s4, rfl⟩ := hR
      obtain rfl := e1.symm
      refine rdC ?_
      refine ifd (fun h1 => ?_) (fun h1 => ?_)
      · exact ret_own _ _ (hp _) ⟨x4, 1, by omega, by omega, by omega, rfl, rfl⟩
      refine ifd (fun h1 => ?_) (fun h1 => ?_)
      · exact ret_own _ _ (hp _) ⟨x4, 2, by omega, by omega, by omega, rfl, rfl⟩
      exact ret_own _ _ (hp _) ⟨x4, 0, by omega, by omega, by omega, rfl, rfl⟩
    · refine call_own (medianF_spec H2 (a := a + (b - a) / 4 * 1) (b := a + (b - a) / 4 * 2) (c := a + (b - a) / 4 * 3) hle hV (by omega) (by omega) (by omega)) fun v μ' h' hle' hap hR => ?_
      obtain ⟨x4, o4, rfl, e1, s4, rfl⟩ := hR
      obtain rfl := e1.symm
      refine rdC ?_
      refine ifd (fun h1 => ?_) (fun h1 => ?_)
      · exact ret_own _ _ (hp _) ⟨x4, 1, by omega, by omega, by omega, rfl, rfl⟩
      refine ifd (fun h1 => ?_) (fun h1 => ?_)
      · exact ret_own _ _ (hp _) ⟨x4, 2, by omega, by omega, by omega, rfl, rfl⟩
      exact ret_own _ _ (hp _) ⟨x4, 0, by omega, by omega, by omega, rfl, rfl⟩
  · refine rdC ?_
    refine ifd (fun h1 => ?_) (fun h1 => ?_)
    · exact ret_own _ _ (hp _) ⟨a + (b - a) / 4 * 2, 1, by omega, by omega, by omega, rfl, rfl⟩
    refine ifd (fun h1 => ?_) (fun h1 => ?_)
    · exact ret_own _ _ (hp _) ⟨a + (b - a) / 4 * 2, 2, by omega, by omega, by omega, rfl, rfl⟩
    exact ret_own _ _ (hp _) ⟨a + (b - a) / 4 * 2, 0, by omega, by omega, by omega, rfl, rfl⟩
end
end Go.Vx

/- Contracts: lengths in bits. -/
namespace Go.Vx
open Go.Proofs Classical
open Go.Sort
theorem bitsLen_shift {x k : Nat} (h : 2 ^ k ≤ x) : bitsLen x = bitsLen (x / 2 ^ k) + k := by
  have hpos : 0 < 2 ^ k := Nat.two_pow_pos k
  apply Nat.le_antisymm
  · rw [bitsLen_le_iff, Nat.pow_add]
    have := lt_two_pow_bitsLen (x / 2 ^ k)
    rw [Nat.div_lt_iff_lt_mul hpos] at this
    exact this
  · have h1 : k < bitsLen x := by
      rcases Nat.lt_or_ge k (bitsLen x) with h2 | h2
      · exact h2
      · have := (bitsLen_le_iff x k).1 h2; omega
    have h3 : bitsLen (x / 2 ^ k) ≤ bitsLen x - k := by
      rw [bitsLen_le_iff, Nat.div_lt_iff_lt_mul hpos, ← Nat.pow_add]
      have : bitsLen x - k + k = bitsLen x := by omega
      rw [this]; exact lt_two_pow_bitsLen x
    omega
section
variable {μ : Mem}
theorem Len64_spec {x : Nat} (hx : x < 18446744073709551616) : Gives Tryz.prog 268 [.int .u64 x] μ (.int .i64 (bitsLen x)) := by
  obtain ⟨L, hL⟩ : ∃ L, L = bitsLen x := ⟨_, rfl⟩
  rw [← hL]
  refine Spec.mk Tryz.func268 (by kernel_rfl) ?_
  refine ifd (fun h1 => ?_) (fun h1 => ?_)
  · refine need_intro (by decide) ?_
    refine num_eq (x := ((x / 4294967296 : Nat) : Int)) (by
      show (x : Int).fdiv 4294967296 = _
      rw [Int.fdiv_eq_ediv_of_nonneg _ (by decide)]; rfl) ?_
    have b1 : bitsLen x = bitsLen (x / 4294967296) + 32 := bitsLen_shift (k := 32) (by omega)
    have b2 : x / 4294967296 < 4294967296 := by omega
    generalize x / 4294967296 = y at *
    refine ifd (fun h2 => ?_) (fun h2 => ?_)
    · refine need_intro (by decide) ?_
      refine num_eq (x := ((y / 65536 : Nat) : Int)) (by
        show (y : Int).fdiv 65536 = _
        rw [Int.fdiv_eq_ediv_of_nonneg _ (by decide)]; rfl) ?_
      have b3 : bitsLen y = bitsLen (y / 65536) + 16 := bitsLen_shift (k := 16) (by omega)
      have b4 : y / 65536 < 65536 := by omega
      generalize y / 65536 = z at *
      refine num_eq (x := 32 + 16) (by decide) ?_
      refine ifd (fun h3 => ?_) (fun h3 => ?_)
      · refine need_intro (by decide) ?_
        refine num_eq (x := ((z / 256 : Nat) : Int)) (by
          show (z : Int).fdiv 256 = _
          rw [Int.fdiv_eq_ediv_of_nonneg _ (by decide)]; rfl) ?_
        have b5 : bitsLen z = bitsLen (z / 256) + 8 := bitsLen_shift (k := 8) (by omega)
        have b6 : z / 256 < 256 := by omega
        generalize z / 256 = w at *
        refine num_eq (x := 32 + 16 + 8) (by decide) ?_
        have b7 : bitsLen w ≤ 8 := (bitsLen_le_iff w 8).2 b6
        refine num_eq (x := (w : Int)) (by
          show (w : Int) % 256 = _
          omega) ?_
        refine byte_intro w (UInt8.ofNat (bitsLen w)) rfl ?_ ?_
        · clear b5 b7
          try clear hw
          revert w
          decide +kernel
        refine num_eq (x := (bitsLen w : Int)) (by
          rw [UInt8.toNat_ofNat', Nat.mod_eq_of_lt (by omega), wrap64 (by omega) (by omega)]) ?_
        refine num_eq (x := (L : Int)) (by rw [wrap64 (by omega) (by omega)]; omega) ?_
        exact ret_gives rfl rfl
      · obtain ⟨w, hw⟩ : ∃ w, w = z := ⟨_, rfl⟩
        have b5 : bitsLen z = bitsLen w + 0 := by rw [hw]; rfl
        have b6 : w < 256 := by omega
        rw [← hw]
        have b7 : bitsLen w ≤ 8 := (bitsLen_le_iff w 8).2 b6
        refine num_eq (x := (w : Int)) (by
          show (w : Int) % 256 = _
          omega) ?_
        refine byte_intro w (UInt8.ofNat (bitsLen w)) rfl ?_ ?_
        · clear b5 b7
          try clear hw
          revert w
          decide +kernel
        refine num_eq (x := (bitsLen w : Int)) (by
          rw [UInt8.toNat_ofNat', Nat.mod_eq_of_lt (by omega), wrap64 (by omega) (by omega)]) ?_
        refine num_eq (x := (L : Int)) (by rw [wrap64 (by omega) (by omega)]; omega) ?_
        exact ret_gives rfl rfl
    · obtain ⟨z, hz⟩ : ∃ z, z = y := ⟨_, rfl⟩
      have b3 : bitsLen y = bitsLen z + 0 := by rw [hz]; rfl
      have b4 : z < 65536 := by omega
      rw [← hz]
      refine ifd (fun h3 => ?_) (fun h3 => ?_)
      · refine need_intro (by decide) ?_
        refine num_eq (x := ((z / 256 : Nat) : Int)) (by
          show (z : Int).fdiv 256 = _
          rw [Int.fdiv_eq_ediv_of_nonneg _ (by decide)]; rfl) ?_
        have b5 : bitsLen z = bitsLen (z / 256) + 8 := bitsLen_shift (k := 8) (by omega)
        have b6 : z / 256 < 256 := by omega
        generalize z / 256 = w at *
        refine num_eq (x := 32 + 8) (by decide) ?_
        have b7 : bitsLen w ≤ 8 := (bitsLen_le_iff w 8).2 b6
        refine num_eq (x := (w : Int)) (by
          show (w : Int) % 256 = _
          omega) ?_
        refine byte_intro w (UInt8.ofNat (bitsLen w)) rfl ?_ ?_
        · clear b5 b7
          try clear hw
          revert w
          decide +kernel
        refine num_eq (x := (bitsLen w : Int)) (by
          rw [UInt8.toNat_ofNat', Nat.mod_eq_of_lt (by omega), wrap64 (by omega) (by omega)]) ?_
        refine num_eq (x := (L : Int)) (by rw [wrap64 (by omega) (by omega)]; omega) ?_
        exact ret_gives rfl rfl
      · obtain ⟨w, hw⟩ : ∃ w, w = z := ⟨_, rfl⟩
        have b5 : bitsLen z = bitsLen w + 0 := by rw [hw]; rfl
        have b6 : w < 256 := by omega
        rw [← hw]
        have b7 : bitsLen w ≤ 8 := (bitsLen_le_iff w 8).2 b6
        refine num_eq (x := (w : Int)) (by
          show (w : Int) % 256 = _
          omega) ?_
        refine byte_intro w (UInt8.ofNat (bitsLen w)) rfl ?_ ?_
        · clear b5 b7
          try clear hw
          revert w
          decide +kernel
        refine num_eq (x := (bitsLen w : Int)) (by
          rw [UInt8.toNat_ofNat', Nat.mod_eq_of_lt (by omega), wrap64 (by omega) (by omega)]) ?_
        refine num_eq (x := (L : Int)) (by rw [wrap64 (by omega) (by omega)]; omega) ?_
        exact ret_gives rfl rfl
  · obtain ⟨y, hy⟩ : ∃ y, y = x := ⟨_, rfl⟩
    have b1 : bitsLen x = bitsLen y + 0 := by rw [hy]; rfl
    have b2 : y < 4294967296 := by omega
    rw [← hy]
    refine ifd (fun h2 => ?_) (fun h2 => ?_)
    · refine need_intro (by decide) ?_
      refine num_eq (x := ((y / 65536 : Nat) : Int)) (by
        show (y : Int).fdiv 65536 = _
        rw [Int.fdiv_eq_ediv_of_nonneg _ (by decide)]; rfl) ?_
      have b3 : bitsLen y = bitsLen (y / 65536) + 16 := bitsLen_shift (k := 16) (by omega)
      have b4 : y / 65536 < 65536 := by omega
      generalize y / 65536 = z at *
      refine num_eq (x := 0 + 16) (by decide) ?_
      refine ifd (fun h3 => ?_) (fun h3 => ?_)
      · refine need_intro (by decide) ?_
        refine num_eq (x := ((z / 256 : Nat) : Int)) (by
          show (z : Int).fdiv 256 = _
          rw [Int.fdiv_eq_ediv_of_nonneg _ (by decide)]; rfl) ?_
        have b5 : bitsLen z = bitsLen (z / 256) + 8 := bitsLen_shift (k := 8) (by omega)
        have b6 : z / 256 < 256 := by omega
        generalize z / 256 = w at *
        refine num_eq (x := 0 + 16 + 8) (by decide) ?_
        have b7 : bitsLen w ≤ 8 := (bitsLen_le_iff w 8).2 b6
        refine num_eq (x := (w : Int)) (by
          show (w : Int) % 256 = _
          omega) ?_
        refine byte_intro w (UInt8.ofNat (bitsLen w)) rfl ?_ ?_
        · clear b5 b7
          try clear hw
          revert w
          decide +kernel
        refine num_eq (x := (bitsLen w : Int)) (by
          rw [UInt8.toNat_ofNat', Nat.mod_eq_of_lt (by omega), wrap64 (by omega) (by omega)]) ?_
        refine num_eq (x := (L : Int)) (by rw [wrap64 (by omega) (by omega)]; omega) ?_
        exact ret_gives rfl rfl
      · obtain ⟨w, hw⟩ : ∃ w, w = z := ⟨_, rfl⟩
        have b5 : bitsLen z = bitsLen w + 0 := by rw [hw]; rfl
        have b6 : w < 256 := by omega
        rw [← hw]
        have b7 : bitsLen w ≤ 8 := (bitsLen_le_iff w 8).2 b6
        refine num_eq (x := (w : Int)) (by
          show (w : Int) % 256 = _
          omega) ?_
        refine byte_intro w (UInt8.ofNat (bitsLen w)) rfl ?_ ?_
        · clear b5 b7
          try clear hw
          revert w
          decide +kernel
        refine num_eq (x := (bitsLen w : Int)) (by
          rw [UInt8.toNat_ofNat', Nat.mod_eq_of_lt (by omega), wrap64 (by omega) (by omega)]) ?_
        refine num_eq (x := (L : Int)) (by rw [wrap64 (by omega) (by omega)]; omega) ?_
        exact ret_gives rfl rfl
    · obtain ⟨z, hz⟩ : ∃ z, z = y := ⟨_, rfl⟩
      have b3 : bitsLen y = bitsLen z + 0 := by rw [hz]; rfl
      have b4 : z < 65536 := by omega
      rw [← hz]
      refine ifd (fun h3 => ?_) (fun h3 => ?_)
      · refine need_intro (by decide) ?_
        refine num_eq (x := ((z / 256 : Nat) : Int)) (by
          show (z : Int).fdiv 256 = _
          rw [Int.fdiv_eq_ediv_of_nonneg _ (by decide)]; rfl) ?_
        have b5 : bitsLen z = bitsLen (z / 256) + 8 := bitsLen_shift (k := 8) (by omega)
        have b6 : z / 256 < 256 := by omega
        generalize z / 256 = w at *
        refine num_eq (x := 0 + 8) (by decide) ?_
        have b7 : bitsLen w ≤ 8 := (bitsLen_le_iff w 8).2 b6
        refine num_eq (x := (w : Int)) (by
          show (w : Int) % 256 = _
          omega) ?_
        refine byte_intro w (UInt8.ofNat (bitsLen w)) rfl ?_ ?_
        · clear b5 b7
          try clear hw
          revert w
          decide +kernel
        refine num_eq (x := (bitsLen w : Int)) (by
          rw [UInt8.toNat_ofNat', Nat.mod_eq_of_lt (by omega), wrap64 (by omega) (by omega)]) ?_
        refine num_eq (x := (L : Int)) (by rw [wrap64 (by omega) (by omega)]; omega) ?_
        exact ret_gives rfl rfl
      · obtain ⟨w, hw⟩ : ∃ w, w = z := ⟨_, rfl⟩
        have b5 : bitsLen z = bitsLen w + 0 := by rw [hw]; rfl
        have b6 : w < 256 := by omega
        rw [← hw]
        have b7 : bitsLen w ≤ 8 := (bitsLen_le_iff w 8).2 b6
        refine num_eq (x := (w : Int)) (by
          show (w : Int) % 256 = _
          omega) ?_
        refine byte_intro w (UInt8.ofNat (bitsLen w)) rfl ?_ ?_
        · clear b5 b7
          try clear hw
          revert w
          decide +kernel
        refine num_eq (x := (bitsLen w : Int)) (by
          rw [UInt8.toNat_ofNat', Nat.mod_eq_of_lt (by omega), wrap64 (by omega) (by omega)]) ?_
        refine num_eq (x := (L : Int)) (by rw [wrap64 (by omega) (by omega)]; omega) ?_
        exact ret_gives rfl rfl
theorem Len_spec {x : Nat} (hx : x < 18446744073709551616) : Gives Tryz.prog 183 [.int .u64 x] μ (.int .i64 (bitsLen x)) := by
  refine Spec.mk Tryz.func183 (by kernel_rfl) ?_
  refine call_gives (Len64_spec hx) ?_
  exact ret_gives rfl rfl
theorem and_le {x m : Int} (h0 : 0 ≤ m) (h1 : m < 18446744073709551616) : 0 ≤ bits .and .u64 x m ∧ bits .and .u64 x m ≤ m := by
  have e : bits .and .u64 x m = (((BitVec.ofInt 64 x &&& BitVec.ofInt 64 m).toNat : Nat) : Int) % 18446744073709551616 := rfl
  have h2 : (BitVec.ofInt 64 m).toNat = m.toNat := by
    rw [BitVec.toNat_ofInt]
    congr 1
    exact Int.emod_eq_of_lt h0 h1
  have h3 : (BitVec.ofInt 64 x &&& BitVec.ofInt 64 m).toNat ≤ m.toNat := by
    rw [BitVec.toNat_and, h2]
    exact Nat.and_le_right
  rw [e]
  omega
end
end Go.Vx

/- Contracts: patterns broken, by the owner's functions. -/
namespace Go.Vx
open Go.Proofs Classical
open Go.Sort
section
variable {α : Type} {J : Array α → Mem} {μ : Mem} {d : Array α} {rs : Nat} {s : Int}
/-- A row beside a state of the generator. -/
abbrev JX (J : Array α → Mem) (rs : Nat) (s : Int) (d : Array α) : Mem := (J d).set rs (.cells #[.int .u64 s] 288 (0, 0))
theorem rdX' {K : List Value → Prop} (h : K [.int .u64 s]) : extVC μ (JX J rs s d) ⟨rs, 0, none⟩ 1 K := own_intro _ rfl (box_at (Mem.set_at _ _ _)) h
theorem wrX' {v : Int} {K : Mem → Prop} (h : K (JX J rs v d)) : stoVC (JX J rs s d) ⟨rs, 0, none⟩ [.int .u64 v] K := by
  refine sto_intro [.int .u64 s] 288 (Mem.set_at _ _ _) rfl (Nat.le_refl _) ?_
  have e : Mem.set (JX J rs s d) rs (.cells #[.int .u64 v] 288 (0, 0)) = JX J rs v d := by rw [Mem.set_set]
  show K (Mem.set (JX J rs s d) rs (.cells #[.int .u64 v] 288 (0, 0)))
  rw [e]; exact h
theorem NextF_spec : SpecH Tryz.prog 313 [.pointer (some ⟨rs, 0, none⟩)] μ (JX J rs s d) fun v μ' h' => ∃ s', v = .int .u64 s' ∧ μ' = μ ∧ h' = JX J rs s' d := by
  refine SpecH.mk [] Tryz.func313 (by kernel_rfl) ?_
  refine rdX' ?_
  refine rdX' ?_
  refine need_intro (by decide) ?_
  refine num_intro fun _ _ => ?_
  refine num_intro fun _ _ => ?_
  refine wrX' ?_
  refine rdX' ?_
  refine rdX' ?_
  refine need_intro (by decide) ?_
  refine num_intro fun _ _ => ?_
  refine num_intro fun _ _ => ?_
  refine wrX' ?_
  refine rdX' ?_
  refine rdX' ?_
  refine need_intro (by decide) ?_
  refine num_intro fun _ _ => ?_
  refine num_intro fun _ _ => ?_
  refine wrX' ?_
  refine rdX' ?_
  exact ret_plain ⟨_, rfl, rfl, rfl⟩
end
section
variable {α : Type} [Inhabited α] {lf sf : FuncId} {lb sb : List Value} {n : Nat} {lt : α → α → Bool} {μ0 : Mem} {J : Array α → Mem} {V : Array α → Prop} {μ : Mem} {d : Array α} {rs : Nat} {s : Int}
theorem nextPowerOfTwoF_spec {x : Nat} (hx : x ≤ 1000000000000) : Gives Tryz.prog 312 [.int .i64 x] μ (.int .u64 ((2 ^ bitsLen x : Nat) : Int)) := by
  refine Spec.mk Tryz.func312 (by kernel_rfl) ?_
  have h1 : bitsLen x ≤ 40 := (bitsLen_le_iff x 40).2 (by omega)
  have h2 : 2 ^ bitsLen x ≤ 2 ^ 40 := Nat.pow_le_pow_right (by decide) h1
  have h3 : (2 : Nat) ^ 40 = 1099511627776 := by decide
  refine num_eq (x := (x : Int)) (by
    show (x : Int) % 18446744073709551616 = _
    omega) ?_
  refine call_gives (Len_spec (by omega)) ?_
  refine num_eq (x := (bitsLen x : Int)) (by
    show ((bitsLen x : Nat) : Int) % 18446744073709551616 = _
    omega) ?_
  refine need_intro (by omega) ?_
  refine num_eq (x := ((2 ^ bitsLen x : Nat) : Int)) (by
    have e : min ((bitsLen x : Int).toNat) IntKind.u64.bits = bitsLen x := by
      show min ((bitsLen x : Int).toNat) 64 = bitsLen x
      omega
    rw [e]
    have h4 : ((2 : Int) ^ bitsLen x) = ((2 ^ bitsLen x : Nat) : Int) := by rw [Int.natCast_pow]; rfl
    show (1 * (2 : Int) ^ bitsLen x) % 18446744073709551616 = _
    rw [Int.one_mul, h4]
    generalize 2 ^ bitsLen x = P at *
    omega) ?_
  exact ret_gives rfl rfl
theorem breakPatternsF_spec (H : SortBy lf sf lb sb n lt μ0 J V) {a b : Nat} (hle : μ0.Le μ) (hV : V d) (ha : a + 8 ≤ b) (hb : b ≤ n) :
    SpecH Tryz.prog 271 [fdata lf sf lb sb, .int .i64 a, .int .i64 b] μ (J d) fun v μ' h' => v = .tuple #[] ∧ ∃ d', PermIn a b d d' ∧ h' = J d' ∧ V d' := by
  have hn := H.max
  refine SpecH.mk [7] Tryz.func271 (by kernel_rfl) ?_
  intro r1
  refine num_eq (x := ((b - a : Nat) : Int)) (by rw [wrap64 (by omega) (by omega)]; omega) ?_
  refine ifd (fun h8 => ?_) (fun h8 => by omega)
  refine num_intro fun s0 _ => ?_
  intro rs hm ho
  have hdom : ∀ d', V d' → J d' rs = none := fun d' hV' => H.dom hV hV' ho
  have H2 : ∀ s, SortBy lf sf lb sb n lt μ0 (JX J rs s) V := fun s => H.beside _ hdom
  generalize hH : Mem.set (J d) rs _ = H1
  obtain rfl : H1 = JX J rs 0 d := hH.symm
  clear hH hm
  refine wrX' ?_
  refine call_gives (nextPowerOfTwoF_spec (x := b - a) (by omega)) ?_
  have hP1 : 1 ≤ 2 ^ bitsLen (b - a) := Nat.two_pow_pos _
  have hP2 : 2 ^ bitsLen (b - a) ≤ 2 * (b - a) := two_pow_bitsLen_le (by omega)
  generalize 2 ^ bitsLen (b - a) = P at *
  refine need_intro (by decide) ?_
  refine num_eq (x := (((b - a) / 4 : Nat) : Int)) (by rw [Int.tdiv_eq_ediv_of_nonneg (by omega), wrap64 (by omega) (by omega)]; omega) ?_
  refine num_eq (x := (((b - a) / 4 * 2 : Nat) : Int)) (by rw [wrap64 (by omega) (by omega)]; omega) ?_
  refine num_eq (x := ((a + (b - a) / 4 * 2 : Nat) : Int)) (by rw [wrap64 (by omega) (by omega)]; omega) ?_
  refine num_eq (x := ((a + (b - a) / 4 * 2 - 1 : Nat) : Int)) (by rw [wrap64 (by omega) (by omega)]; omega) ?_
  refine loop_intro (fun p : Nat × Array α × Int => a + (b - a) / 4 * 2 ≤ p.1 + 1 ∧ p.1 ≤ a + (b - a) / 4 * 2 + 2 ∧ V p.2.1 ∧ PermIn a b d p.2.1)
    (fun (i, d, s) => ⟨[(1, .val (.int .i64 a)), (3, .loc 0 r1 0), (6, .val (.int .i64 (b - a : Nat))), (7, .val (.pointer (some ⟨rs, 0, none⟩))), (8, .val (.int .u64 P)), (9, .val (.int .i64 i))], fblk r1 lf sf lb sb, 1, μ, JX J rs s d⟩) (fun p => a + (b - a) / 4 * 2 + 3 - p.1)
    (a + (b - a) / 4 * 2 - 1, d, s0) ⟨by dsimp only; omega, by dsimp only; omega, hV, permIn_refl _ _ _⟩ (fun (_, _, _) => ⟨rfl, rfl⟩) ⟨⟨rfl, rfl, rfl, rfl, rfl, rfl, trivial⟩, ⟨rfl, trivial⟩, rfl, rfl⟩ ?_
  rintro ⟨i, d1, s1⟩ ⟨hi1, hi2, hV1, hp⟩
  dsimp only at hi1 hi2 hV1 hp
  have hs1 : d1.size = n := H.size hV1
  have hs0 : d.size = n := H.size hV
  refine need_intro (by decide) ?_
  refine num_eq (x := (((b - a) / 4 : Nat) : Int)) (by rw [Int.tdiv_eq_ediv_of_nonneg (by omega), wrap64 (by omega) (by omega)]; omega) ?_
  refine num_eq (x := (((b - a) / 4 * 2 : Nat) : Int)) (by rw [wrap64 (by omega) (by omega)]; omega) ?_
  refine num_eq (x := ((a + (b - a) / 4 * 2 : Nat) : Int)) (by rw [wrap64 (by omega) (by omega)]; omega) ?_
  refine num_eq (x := ((a + (b - a) / 4 * 2 + 1 : Nat) : Int)) (by rw [wrap64 (by omega) (by omega)]; omega) ?_
  refine ifd (fun hlx => ?_) (fun hlx => ?_)
  rotate_left
  · exact ret_own _ _ (parts_set (hdom d1 hV1)) ⟨rfl, d1, hp, rfl, hV1⟩
  refine call_own (NextF_spec) fun v μ' h' hle' hap hR => ?_
  obtain ⟨s2, rfl, e1, rfl⟩ := hR
  obtain rfl := e1.symm
  refine num_eq (x := ((P - 1 : Nat) : Int)) (by
    show ((P : Int) - 1) % 18446744073709551616 = _
    omega) ?_
  refine num_intro fun y hy => ?_
  obtain ⟨hy1, hy2⟩ := and_le (x := s2) (m := ((P - 1 : Nat) : Int)) (by omega) (by omega)
  rw [← hy] at hy1 hy2
  obtain ⟨o, rfl⟩ := Int.eq_ofNat_of_zero_le hy1
  clear hy
  refine num_eq (x := (o : Int)) (wrap64 (by omega) (by omega)) ?_
  refine ifd (fun ho => ?_) (fun ho => ?_)
  · refine num_eq (x := ((o - (b - a) : Nat) : Int)) (by rw [wrap64 (by omega) (by omega)]; omega) ?_
    have ho2 : o - (b - a) < b - a := by omega
    generalize o - (b - a) = q at *
    refine num_eq (x := ((a + q : Nat) : Int)) (by rw [wrap64 (by omega) (by omega)]; omega) ?_
    refine call_own ((H2 s2).swap hle hV1 (i := i) (j := a + q) (by omega) (by omega)) fun v μ' h' hle' hap hR => ?_
    obtain ⟨rfl, e2, rfl⟩ := hR
    obtain rfl := e2.symm
    refine num_eq (x := ((i + 1 : Nat) : Int)) (by rw [wrap64 (by omega) (by omega)]; omega) ?_
    exact ⟨(i + 1, swp d1 i (a + q), s2), ⟨by dsimp only; omega, by dsimp only; omega, H.sw hV1 (by omega) (by omega), permIn_trans _ _ _ _ _ hp (swp_permIn d1 a b i (a + q) (by omega) (by omega) (by omega) (by omega) (by omega))⟩, by dsimp only; omega, ⟨⟨rfl, rfl, rfl, rfl, rfl, rfl, trivial⟩, ⟨rfl, trivial⟩, rfl, rfl⟩⟩
  · refine num_eq (x := ((a + o : Nat) : Int)) (by rw [wrap64 (by omega) (by omega)]; omega) ?_
    refine call_own ((H2 s2).swap hle hV1 (i := i) (j := a + o) (by omega) (by omega)) fun v μ' h' hle' hap hR => ?_
    obtain ⟨rfl, e2, rfl⟩ := hR
    obtain rfl := e2.symm
    refine num_eq (x := ((i + 1 : Nat) : Int)) (by rw [wrap64 (by omega) (by omega)]; omega) ?_
    exact ⟨(i + 1, swp d1 i (a + o), s2), ⟨by dsimp only; omega, by dsimp only; omega, H.sw hV1 (by omega) (by omega), permIn_trans _ _ _ _ _ hp (swp_permIn d1 a b i (a + o) (by omega) (by omega) (by omega) (by omega) (by omega))⟩, by dsimp only; omega, ⟨⟨rfl, rfl, rfl, rfl, rfl, rfl, trivial⟩, ⟨rfl, trivial⟩, rfl, rfl⟩⟩
end
end Go.Vx

/- Contracts: the partitions, by the owner's functions. -/
namespace Go.Vx
open Go.Proofs Classical
open Go.Sort
section
variable {α : Type} [Inhabited α] {lf sf : FuncId} {lb sb : List Value} {n : Nat} {lt : α → α → Bool} {μ0 : Mem} {J : Array α → Mem} {V : Array α → Prop} {μ : Mem} {d : Array α}
theorem partitionEqualF_spec (H : SortBy lf sf lb sb n lt μ0 J V) {a b pivot : Nat} (hle : μ0.Le μ) (hV : V d) (hap : a ≤ pivot) (hpb : pivot < b) (hb : b ≤ n) :
    SpecH Tryz.prog 275 [fdata lf sf lb sb, .int .i64 a, .int .i64 b, .int .i64 pivot] μ (J d) fun v μ' h' => v = .int .i64 (partitionEqual lt d a b pivot).1 ∧ μ' = μ ∧ h' = J (partitionEqual lt d a b pivot).2 ∧ V (partitionEqual lt d a b pivot).2 := by
  have hn := H.max
  refine SpecH.mk [] Tryz.func275 (by kernel_rfl) ?_
  intro r1
  rw [partitionEqual]
  generalize hR : partEqLoop lt a (a + 1) (b - 1) (swp d a pivot) = R
  refine call_own (H.swap hle hV (i := a) (j := pivot) (by omega) (by omega)) fun v μ' h' hle' hap hR => ?_
  obtain ⟨rfl, e2, rfl⟩ := hR
  obtain rfl := e2.symm
  clear hle' hap
  refine num_eq (x := ((a + 1 : Nat) : Int)) (by rw [wrap64 (by omega) (by omega)]; omega) ?_
  refine num_eq (x := ((b - 1 : Nat) : Int)) (by rw [wrap64 (by omega) (by omega)]; omega) ?_
  refine loop_intro (fun p : Nat × Nat × Array α => a < p.1 ∧ p.1 ≤ p.2.1 + 2 ∧ p.2.1 < b ∧ V p.2.2 ∧ partEqLoop lt a p.1 p.2.1 p.2.2 = R)
    (fun (i, j, d) => ⟨[(1, .val (.int .i64 a)), (4, .loc 0 r1 0), (9, .val (.int .i64 i)), (10, .val (.int .i64 j))], fblk r1 lf sf lb sb, 1, μ, J d⟩) (fun p => p.2.1 + 1 - p.1)
    (a + 1, b - 1, swp d a pivot) ⟨by dsimp only; omega, by dsimp only; omega, by dsimp only; omega, H.sw hV (by omega) (by omega), hR⟩ (fun (_, _, _) => ⟨rfl, rfl⟩) ⟨⟨rfl, rfl, rfl, rfl, trivial⟩, ⟨rfl, trivial⟩, rfl, rfl⟩ ?_
  clear hR
  rintro ⟨i, j, d1⟩ ⟨hai, hij0, hjb, hs, hR⟩
  dsimp only at hai hij0 hjb hs hR
  rw [partEqLoop_eq] at hR
  generalize hU : scanUp (fun x => !lt d1[a]! x) d1 j i = U at *
  refine loop_intro (fun i' : Nat => i ≤ i' ∧ i' ≤ j + 2 ∧ scanUp (fun x => !lt d1[a]! x) d1 j i' = U) (fun i' => ⟨[(1, .val (.int .i64 a)), (4, .loc 0 r1 0), (9, .val (.int .i64 i')), (10, .val (.int .i64 j))], fblk r1 lf sf lb sb, 1, μ, J d1⟩) (fun i' => j + 1 - i')
    i ⟨by omega, by omega, hU⟩ (fun _ => ⟨rfl, rfl⟩) ⟨⟨rfl, rfl, rfl, rfl, trivial⟩, ⟨rfl, trivial⟩, rfl, rfl⟩ ?_
  clear hU
  rintro i' ⟨h1, h2, hU⟩
  rw [scanUp] at hU
  refine ifd (fun hij => ?_) (fun hij => ?_)
  refine call_own (H.less hle hs (i := a) (j := i') (by omega) (by omega)) fun v μ' h' hle' hap hR => ?_
  obtain ⟨rfl, e2, rfl⟩ := hR
  obtain rfl := e2.symm
  clear hle' hap
  refine if_intro (fun hl => ?_) (fun hl => ?_)
  · rw [if_pos (by simp only [Bool.and_eq_true, decide_eq_true_eq]; exact ⟨by omega, hl⟩)] at hU
    refine num_eq (x := ((i' + 1 : Nat) : Int)) (by rw [wrap64 (by omega) (by omega)]; omega) ?_
    exact ⟨i' + 1, ⟨by omega, by omega, hU⟩, by omega, ⟨⟨rfl, rfl, rfl, rfl, trivial⟩, ⟨rfl, trivial⟩, rfl, rfl⟩⟩
  rw [if_neg (by simp only [Bool.and_eq_true, hl]; simp)] at hU
  rotate_left
  rw [if_neg (by simp; omega)] at hU
  obtain rfl := hU
  rotate_left
  obtain rfl := hU
  rotate_left
  all_goals
    generalize hV : scanDown (fun x => lt d1[a]! x) d1 i' j = V at *
    refine loop_intro (fun j' : Nat => j' ≤ j ∧ 0 ≤ j' ∧ scanDown (fun x => lt d1[a]! x) d1 i' j' = V) (fun j' => ⟨[(1, .val (.int .i64 a)), (4, .loc 0 r1 0), (9, .val (.int .i64 i')), (10, .val (.int .i64 j'))], fblk r1 lf sf lb sb, 1, μ, J d1⟩) (fun j' => j')
      j ⟨by omega, by omega, hV⟩ (fun _ => ⟨rfl, rfl⟩) ⟨⟨rfl, rfl, rfl, rfl, trivial⟩, ⟨rfl, trivial⟩, rfl, rfl⟩ ?_
    clear hV
    rintro j' ⟨g1, g2, hV⟩
    refine ifd (fun hij2 => ?_) (fun hij2 => ?_)
    obtain ⟨k, rfl⟩ : ∃ k, j' = k + 1 := ⟨j' - 1, by omega⟩
    rw [scanDown] at hV
    refine call_own (H.less hle hs (i := a) (j := k + 1) (by omega) (by omega)) fun v μ' h' hle' hap hR => ?_
    obtain ⟨rfl, e2, rfl⟩ := hR
    obtain rfl := e2.symm
    clear hle' hap
    refine if_intro (fun hl => ?_) (fun hl => ?_)
    · rw [if_pos (by simp only [Bool.and_eq_true, decide_eq_true_eq]; exact ⟨by omega, hl⟩)] at hV
      refine num_eq (x := ((k : Nat) : Int)) (by rw [wrap64 (by omega) (by omega)]; omega) ?_
      exact ⟨k, ⟨by omega, by omega, hV⟩, by omega, ⟨⟨rfl, rfl, rfl, rfl, trivial⟩, ⟨rfl, trivial⟩, rfl, rfl⟩⟩
    rw [if_neg (by simp only [Bool.and_eq_true, hl]; simp)] at hV
    obtain rfl := hV
    generalize k + 1 = j' at *
    rotate_left
    replace hV : j' = V := by
      cases j' with
      | zero => exact hV
      | succ k => rwa [scanDown, if_neg (by simp; omega)] at hV
    obtain rfl := hV
    rotate_left
  all_goals
    refine ifd (fun hgt => ?_) (fun hgt => ?_)
    · rw [if_pos (by omega)] at hR
      subst hR
      exact ret_plain ⟨rfl, rfl, rfl, hs⟩
    · rw [if_neg (by omega)] at hR
      refine call_own (H.swap hle hs (i := i') (j := j') (by omega) (by omega)) fun v μ' h' hle' hap hR => ?_
      obtain ⟨rfl, e2, rfl⟩ := hR
      obtain rfl := e2.symm
      clear hle' hap
      refine num_eq (x := ((i' + 1 : Nat) : Int)) (by rw [wrap64 (by omega) (by omega)]; omega) ?_
      refine num_eq (x := ((j' - 1 : Nat) : Int)) (by rw [wrap64 (by omega) (by omega)]; omega) ?_
      exact ⟨(i' + 1, j' - 1, swp d1 i' j'), ⟨by dsimp only; omega, by dsimp only; omega, by dsimp only; omega, H.sw hs (by omega) (by omega), hR⟩, by dsimp only; omega, ⟨⟨rfl, rfl, rfl, rfl, trivial⟩, ⟨rfl, trivial⟩, rfl, rfl⟩⟩
set_option maxHeartbeats 4000000 in
theorem partitionF_spec (H : SortBy lf sf lb sb n lt μ0 J V) {a b pivot : Nat} (hle : μ0.Le μ) (hV : V d) (hap : a ≤ pivot) (hpb : pivot < b) (hb : b ≤ n) :
    SpecH Tryz.prog 276 [fdata lf sf lb sb, .int .i64 a, .int .i64 b, .int .i64 pivot] μ (J d) fun v μ' h' => (∃ ap, v = .tuple #[.int .i64 (partition lt d a b pivot).1, .bool ap]) ∧ μ' = μ ∧ h' = J (partition lt d a b pivot).2.2 ∧ V (partition lt d a b pivot).2.2 := by
  have hn := H.max
  refine SpecH.mk [] Tryz.func276 (by kernel_rfl) ?_
  intro r1
  rw [partition_fst, partition_arr]
  generalize hR : partLoop lt a (a + 1) (b - 1) (swp d a pivot) = R
  refine call_own (H.swap hle hV (i := a) (j := pivot) (by omega) (by omega)) fun v μ' h' hle' hap hR => ?_
  obtain ⟨rfl, e2, rfl⟩ := hR
  obtain rfl := e2.symm
  clear hle' hap
  refine num_eq (x := ((a + 1 : Nat) : Int)) (by rw [wrap64 (by omega) (by omega)]; omega) ?_
  refine num_eq (x := ((b - 1 : Nat) : Int)) (by rw [wrap64 (by omega) (by omega)]; omega) ?_
  have hs : V (swp d a pivot) := H.sw hV (by omega) (by omega)
  generalize swp d a pivot = d1 at *
  obtain ⟨i, hi⟩ : ∃ i, i = a + 1 := ⟨_, rfl⟩
  obtain ⟨j, hj⟩ : ∃ j, j = b - 1 := ⟨_, rfl⟩
  have hai : a < i := by omega
  have hij0 : i ≤ j + 2 := by omega
  have hjb : j < b := by omega
  rw [← hi, ← hj] at hR ⊢
  clear hi hj
  rw [partLoop_eq] at hR
  generalize hU : scanUp (fun x => lt x d1[a]!) d1 j i = U at *
  refine loop_intro (fun i' : Nat => i ≤ i' ∧ i' ≤ j + 2 ∧ scanUp (fun x => lt x d1[a]!) d1 j i' = U) (fun i' => ⟨[(1, .val (.int .i64 a)), (4, .loc 0 r1 0), (10, .val (.int .i64 i')), (11, .val (.int .i64 j))], fblk r1 lf sf lb sb, 1, μ, J d1⟩) (fun i' => j + 1 - i')
    i ⟨by omega, by omega, hU⟩ (fun _ => ⟨rfl, rfl⟩) ⟨⟨rfl, rfl, rfl, rfl, trivial⟩, ⟨rfl, trivial⟩, rfl, rfl⟩ ?_
  clear hU
  rintro i' ⟨h1, h2, hU⟩
  rw [scanUp] at hU
  refine ifd (fun hij => ?_) (fun hij => ?_)
  refine call_own (H.less hle hs (i := i') (j := a) (by omega) (by omega)) fun v μ' h' hle' hap hR => ?_
  obtain ⟨rfl, e2, rfl⟩ := hR
  obtain rfl := e2.symm
  clear hle' hap
  refine if_intro (fun hl => ?_) (fun hl => ?_)
  · rw [if_pos (by simp only [Bool.and_eq_true, decide_eq_true_eq]; exact ⟨by omega, hl⟩)] at hU
    refine num_eq (x := ((i' + 1 : Nat) : Int)) (by rw [wrap64 (by omega) (by omega)]; omega) ?_
    exact ⟨i' + 1, ⟨by omega, by omega, hU⟩, by omega, ⟨⟨rfl, rfl, rfl, rfl, trivial⟩, ⟨rfl, trivial⟩, rfl, rfl⟩⟩
  rw [if_neg (by simp only [Bool.and_eq_true, hl]; simp)] at hU
  rotate_left
  rw [if_neg (by simp; omega)] at hU
  obtain rfl := hU
  rotate_left
  obtain rfl := hU
  rotate_left
  all_goals
    generalize hV : scanDown (fun x => !lt x d1[a]!) d1 i' j = V at *
    refine loop_intro (fun j' : Nat => j' ≤ j ∧ 0 ≤ j' ∧ scanDown (fun x => !lt x d1[a]!) d1 i' j' = V) (fun j' => ⟨[(1, .val (.int .i64 a)), (4, .loc 0 r1 0), (10, .val (.int .i64 i')), (11, .val (.int .i64 j'))], fblk r1 lf sf lb sb, 1, μ, J d1⟩) (fun j' => j')
      j ⟨by omega, by omega, hV⟩ (fun _ => ⟨rfl, rfl⟩) ⟨⟨rfl, rfl, rfl, rfl, trivial⟩, ⟨rfl, trivial⟩, rfl, rfl⟩ ?_
    clear hV
    rintro j' ⟨g1, g2, hV⟩
    refine ifd (fun hij2 => ?_) (fun hij2 => ?_)
    obtain ⟨k, rfl⟩ : ∃ k, j' = k + 1 := ⟨j' - 1, by omega⟩
    rw [scanDown] at hV
    refine call_own (H.less hle hs (i := k + 1) (j := a) (by omega) (by omega)) fun v μ' h' hle' hap hR => ?_
    obtain ⟨rfl, e2, rfl⟩ := hR
    obtain rfl := e2.symm
    clear hle' hap
    refine if_intro (fun hl => ?_) (fun hl => ?_)
    · rw [if_pos (by simp only [Bool.and_eq_true, decide_eq_true_eq]; exact ⟨by omega, hl⟩)] at hV
      refine num_eq (x := ((k : Nat) : Int)) (by rw [wrap64 (by omega) (by omega)]; omega) ?_
      exact ⟨k, ⟨by omega, by omega, hV⟩, by omega, ⟨⟨rfl, rfl, rfl, rfl, trivial⟩, ⟨rfl, trivial⟩, rfl, rfl⟩⟩
    rw [if_neg (by simp only [Bool.and_eq_true, hl]; simp)] at hV
    obtain rfl := hV
    generalize k + 1 = j' at *
    rotate_left
    replace hV : j' = V := by
      cases j' with
      | zero => exact hV
      | succ k => rwa [scanDown, if_neg (by simp; omega)] at hV
    obtain rfl := hV
    rotate_left
  all_goals
    refine ifd (fun hgt => ?_) (fun hgt => ?_)
    · rw [if_pos (by omega)] at hR
      subst hR
      refine call_own (H.swap hle hs (i := j') (j := a) (by omega) (by omega)) fun v μ' h' hle' hap hR => ?_
      obtain ⟨rfl, e2, rfl⟩ := hR
      obtain rfl := e2.symm
      clear hle' hap
      exact ret_plain ⟨⟨_, rfl⟩, rfl, rfl, H.sw hs (by omega) (by omega)⟩
    · rw [if_neg (by omega)] at hR
      refine call_own (H.swap hle hs (i := i') (j := j') (by omega) (by omega)) fun v μ' h' hle' hap hR => ?_
      obtain ⟨rfl, e2, rfl⟩ := hR
      obtain rfl := e2.symm
      clear hle' hap
      refine num_eq (x := ((i' + 1 : Nat) : Int)) (by rw [wrap64 (by omega) (by omega)]; omega) ?_
      refine num_eq (x := ((j' - 1 : Nat) : Int)) (by rw [wrap64 (by omega) (by omega)]; omega) ?_
      refine loop_intro (fun p : Nat × Nat × Array α => a < p.1 ∧ p.1 ≤ p.2.1 + 2 ∧ p.2.1 < b ∧ V p.2.2 ∧ partLoop lt a p.1 p.2.1 p.2.2 = R)
        (fun (i, j, d) => ⟨[(1, .val (.int .i64 a)), (4, .loc 0 r1 0), (10, .val (.int .i64 i)), (11, .val (.int .i64 j))], fblk r1 lf sf lb sb, 1, μ, J d⟩) (fun p => p.2.1 + 1 - p.1)
        (i' + 1, j' - 1, swp d1 i' j') ⟨by dsimp only; omega, by dsimp only; omega, by dsimp only; omega, H.sw hs (by omega) (by omega), hR⟩ (fun (_, _, _) => ⟨rfl, rfl⟩) ⟨⟨rfl, rfl, rfl, rfl, trivial⟩, ⟨rfl, trivial⟩, rfl, rfl⟩ ?_
      clear hR hgt hs hai hij0 hjb h1 h2 g1 g2
      rintro ⟨i, j, d1⟩ ⟨hai, hij0, hjb, hs, hR⟩
      dsimp only at hai hij0 hjb hs hR
      rw [partLoop_eq] at hR
      generalize hU : scanUp (fun x => lt x d1[a]!) d1 j i = U at *
      refine loop_intro (fun i' : Nat => i ≤ i' ∧ i' ≤ j + 2 ∧ scanUp (fun x => lt x d1[a]!) d1 j i' = U) (fun i' => ⟨[(1, .val (.int .i64 a)), (4, .loc 0 r1 0), (10, .val (.int .i64 i')), (11, .val (.int .i64 j))], fblk r1 lf sf lb sb, 1, μ, J d1⟩) (fun i' => j + 1 - i')
        i ⟨by omega, by omega, hU⟩ (fun _ => ⟨rfl, rfl⟩) ⟨⟨rfl, rfl, rfl, rfl, trivial⟩, ⟨rfl, trivial⟩, rfl, rfl⟩ ?_
      clear hU
      rintro i' ⟨h1, h2, hU⟩
      rw [scanUp] at hU
      refine ifd (fun hij => ?_) (fun hij => ?_)
      refine call_own (H.less hle hs (i := i') (j := a) (by omega) (by omega)) fun v μ' h' hle' hap hR => ?_
      obtain ⟨rfl, e2, rfl⟩ := hR
      obtain rfl := e2.symm
      clear hle' hap
      refine if_intro (fun hl => ?_) (fun hl => ?_)
      · rw [if_pos (by simp only [Bool.and_eq_true, decide_eq_true_eq]; exact ⟨by omega, hl⟩)] at hU
        refine num_eq (x := ((i' + 1 : Nat) : Int)) (by rw [wrap64 (by omega) (by omega)]; omega) ?_
        exact ⟨i' + 1, ⟨by omega, by omega, hU⟩, by omega, ⟨⟨rfl, rfl, rfl, rfl, trivial⟩, ⟨rfl, trivial⟩, rfl, rfl⟩⟩
      rw [if_neg (by simp only [Bool.and_eq_true, hl]; simp)] at hU
      rotate_left
      rw [if_neg (by simp; omega)] at hU
      obtain rfl := hU
      rotate_left
      obtain rfl := hU
      rotate_left
      all_goals
        generalize hV : scanDown (fun x => !lt x d1[a]!) d1 i' j = V at *
        refine loop_intro (fun j' : Nat => j' ≤ j ∧ 0 ≤ j' ∧ scanDown (fun x => !lt x d1[a]!) d1 i' j' = V) (fun j' => ⟨[(1, .val (.int .i64 a)), (4, .loc 0 r1 0), (10, .val (.int .i64 i')), (11, .val (.int .i64 j'))], fblk r1 lf sf lb sb, 1, μ, J d1⟩) (fun j' => j')
          j ⟨by omega, by omega, hV⟩ (fun _ => ⟨rfl, rfl⟩) ⟨⟨rfl, rfl, rfl, rfl, trivial⟩, ⟨rfl, trivial⟩, rfl, rfl⟩ ?_
        clear hV
        rintro j' ⟨g1, g2, hV⟩
        refine ifd (fun hij2 => ?_) (fun hij2 => ?_)
        obtain ⟨k, rfl⟩ : ∃ k, j' = k + 1 := ⟨j' - 1, by omega⟩
        rw [scanDown] at hV
        refine call_own (H.less hle hs (i := k + 1) (j := a) (by omega) (by omega)) fun v μ' h' hle' hap hR => ?_
        obtain ⟨rfl, e2, rfl⟩ := hR
        obtain rfl := e2.symm
        clear hle' hap
        refine if_intro (fun hl => ?_) (fun hl => ?_)
        · rw [if_pos (by simp only [Bool.and_eq_true, decide_eq_true_eq]; exact ⟨by omega, hl⟩)] at hV
          refine num_eq (x := ((k : Nat) : Int)) (by rw [wrap64 (by omega) (by omega)]; omega) ?_
          exact ⟨k, ⟨by omega, by omega, hV⟩, by omega, ⟨⟨rfl, rfl, rfl, rfl, trivial⟩, ⟨rfl, trivial⟩, rfl, rfl⟩⟩
        rw [if_neg (by simp only [Bool.and_eq_true, hl]; simp)] at hV
        obtain rfl := hV
        generalize k + 1 = j' at *
        rotate_left
        replace hV : j' = V := by
          cases j' with
          | zero => exact hV
          | succ k => rwa [scanDown, if_neg (by simp; omega)] at hV
        obtain rfl := hV
        rotate_left
      all_goals
        refine ifd (fun hgt => ?_) (fun hgt => ?_)
        · rw [if_pos (by omega)] at hR
          subst hR
          refine call_own (H.swap hle hs (i := j') (j := a) (by omega) (by omega)) fun v μ' h' hle' hap hR => ?_
          obtain ⟨rfl, e2, rfl⟩ := hR
          obtain rfl := e2.symm
          clear hle' hap
          exact ret_plain ⟨⟨_, rfl⟩, rfl, rfl, H.sw hs (by omega) (by omega)⟩
        · rw [if_neg (by omega)] at hR
          refine call_own (H.swap hle hs (i := i') (j := j') (by omega) (by omega)) fun v μ' h' hle' hap hR => ?_
          obtain ⟨rfl, e2, rfl⟩ := hR
          obtain rfl := e2.symm
          clear hle' hap
          refine num_eq (x := ((i' + 1 : Nat) : Int)) (by rw [wrap64 (by omega) (by omega)]; omega) ?_
          refine num_eq (x := ((j' - 1 : Nat) : Int)) (by rw [wrap64 (by omega) (by omega)]; omega) ?_
          exact ⟨(i' + 1, j' - 1, swp d1 i' j'), ⟨by dsimp only; omega, by dsimp only; omega, by dsimp only; omega, H.sw hs (by omega) (by omega), hR⟩, by dsimp only; omega, ⟨⟨rfl, rfl, rfl, rfl, trivial⟩, ⟨rfl, trivial⟩, rfl, rfl⟩⟩
end
end Go.Vx

