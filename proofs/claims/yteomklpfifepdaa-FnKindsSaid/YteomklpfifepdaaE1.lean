/- Texts of the proof, part E1. -/
import Derived.Below
import Derived.Lib.ReflectliteSwap
import Derived.MapKept
import Derived.Orders
import Derived.Sort.AssemblyPlain
import Derived.WalkKit
import Derived.WideKeyMaps
import Derived.Test.YteomklpfifepdaaM3
namespace Go.Vx
theorem src_intro {μ : Mem} {base : Option Addr} {n es : Nat} {K : List Value → Prop} (ys : List Value) (h : SrcAt μ base n es ys) (k : K ys) : srcVC μ base n es K := ⟨⟨ys, h, k⟩⟩
theorem loop_nil {body : St → (Ex → St → Prop) → Prop} {s : St} {K : Ex → St → Prop} {ι : Type} (I : ι → Prop) (σ : ι → St) (m : ι → Nat) (i0 : ι) (h0 : I i0)
  (h1 : ∀ i, scopedE (σ i).nxt (σ i).env = true ∧ scopedB (σ i).nxt (σ i).blk = true) (h2 : s.SubN (σ i0))
  (h3 : ∀ i, I i → body (σ i) fun e s' => match e with
   | .normal => ∃ i', I i' ∧ m i' < m i ∧ s'.Sub (σ i')
   | e => K e s') : loopVC body s K := ⟨.inl ⟨ι, I, σ, m, i0, h0, h1, .inr h2, h3⟩⟩
end Go.Vx
namespace Go.Vx
section
variable {μ μ' : Mem}
theorem Rep.lens {es : Nat} {xs : List D} {b : Option Addr} {n c : Nat} (h : Rep μ (.sl es xs) [.slice b n c]) : n ≤ c := by
 obtain ⟨b', c', h1, h2, _⟩ := h
 simp only [List.cons.injEq, and_true, Value.slice.injEq] at h1
 obtain ⟨rfl, rfl, rfl⟩ := h1
 exact h2.le
end
end Go.Vx
namespace Go.Vx
open Go.Proofs Classical
theorem ints_flat : ∀ l : List Int, (ints l).flatMap vcells = ints l
 | [] => rfl
 | n :: l => by
  have := ints_flat l
  simp only [ints] at this ⊢
  simp [this, vcells]
section
variable {μ : Mem}
theorem Ints.src {l : List Int} {base : Option Addr} (h : Sl μ 1 base l.length (l.map D.i)) {a b cap : Nat} (hab : a ≤ b) (hb : b ≤ l.length) (hc : l.length ≤ cap) : SrcAt μ (if cap = a then base else base.map (·.add (a * 1))) (b - a) 1 (ints ((l.drop a).take (b - a))) := by
 refine ⟨by simp [ints]; omega, fun y hy => ?_, ?_⟩
 ·have w_ := List.mem_map.1 hy
  obtain ⟨n, _, rfl⟩ := w_
  exact ⟨rfl, fun u hu => by simp [vcells] at hu; subst hu; rfl⟩
 ·rcases Nat.eq_or_lt_of_le hab with h0 | h0
  ·exact .inl (by omega)
  ·right
   have w_ := aSo (l := l) (i := a) (by omega)
   obtain ⟨x, hx⟩ := w_
   have w_ := Ints.elem h hx
   obtain ⟨_, hel⟩ := w_
   obtain ⟨a0, e, _⟩ := hel.addr
   refine ⟨a0.add (a * 1), by rw [if_neg (by omega), e]; rfl, fun j v hj => ?_⟩
   rw [ints_flat] at hj
   simp only [ints, List.getElem?_map] at hj
   have w_ := Option.map_eq_some_iff.1 hj
   obtain ⟨y, hy, rfl⟩ := w_
   rw [List.getElem?_take] at hy
   split at hy
   ·rw [List.getElem?_drop] at hy
    have w_ := Ints.elem h hy
    obtain ⟨ad, hel2⟩ := w_
    obtain ⟨a1, e1, e2⟩ := hel2.addr
    rw [e] at e1
    cases e1
    have := hel2.cell 0 _ rfl
    rw [e2, add_add] at this
    rw [add_add]
    rw [← this]
    congr 2
    simp
    omega
   ·cases hy
end
end Go.Vx
namespace Go.Vx
open Go.Proofs Classical
theorem T.args_le (x : T) : x.args.length ≤ 2 := by cases x <;> simp [T.args]
theorem l02Copy_spec : ∀ (x : T) {μ : Mem} {v : Value}, RepV μ x.tm.d v → Spec Try.prog 57 [v] μ fun v μ' => RepV μ' x.tm.d v :=
 T.ind fun x ih μ v hv => by
  have w_ := T.inv hv
  obtain ⟨base, cap, rfl, hsl⟩ := w_
  have hn := T.args_le x
  refine Spec.mk Try.func57 (by kernel_rfl) ?_
  intro r1 r2 r3
  refine loop_nil (fun p : Nat × Option Nat × Nat × List Value × Mem => p.1 ≤ x.args.length ∧ μ.Le p.2.2.2.2 ∧ Rows p.2.2.2.2 4 (((x.args.take p.1).map T.tm).map Tm.d) p.2.2.2.1)
   (fun (i, b, c, ys, μ') => ⟨[(2, .loc 1 r2 0), (3, .loc 2 r3 0), (14, .val (.slice base x.args.length cap)), (15, .val (.int .i64 x.args.length)), (16, .val (.int .i64 i))],
    [(1, some (.cells r2 [.val (.int .i64 0), .val (.int .i64 0), .val (.string ⟨#[]⟩), .val (.slice none 0 0)] 27)), (2, some (.cells r3 [.val (.int .i64 x.tm.kind), .val (.int .i64 x.tm.num), .val (.string x.tm.name), .row 3 b ys.length c] 27)), (3, some (.row b c 27 4 ys))], 4, μ', Mem.nil⟩) (fun p => x.args.length - p.1)
   (0, none, 0, [], μ) ⟨by simp, Mem.Le.refl μ, .nil⟩ (fun (_, _, _, _, _) => ⟨rfl, rfl⟩) ⟨⟨⟨_, rfl, .inl rfl⟩, ⟨_, rfl, .inl rfl⟩, ⟨_, rfl, .inl rfl⟩, ⟨_, rfl, .inl rfl⟩, ⟨_, rfl, .inl rfl⟩, trivial⟩, ⟨.inl rfl, .inr (.inr ⟨_, _, _, _, rfl, rfl, .inl rfl, .inl rfl, .inl rfl, .inr ⟨3, rfl, rfl, Nat.le_refl _⟩, trivial⟩), .inr (.inl ⟨_, _, rfl, Nat.le_refl _⟩), trivial⟩, rfl, rfl⟩ ?_
  rintro ⟨i, b, c, ys, μ'⟩ ⟨hi, hle, hrows⟩
  dsimp only at hi hle hrows
  have hlen := hrows.len
  simp only [List.length_map, List.length_take] at hlen
  refine ifd (fun h => ?_) (fun h => ?_)
  ·have w_ := aSo (l := x.args) (i := i) (by omega)
   obtain ⟨t, ht⟩ := w_
   have ht' : (x.args.map T.tm)[i]? = some t.tm := by simp [ht]
   have w_ := Tm.elem (hsl.mono hle) ht'
   obtain ⟨ad, p, hel, hr⟩ := w_
   refine eIn hel ?_
   intro r4
   refine cPl (ih t (mAt ht) hr) fun v' μ'' hle2 hR => ?_
   have w_ := Tm.invV hR
   obtain ⟨q, rfl⟩ := w_
   intro r5
   refine gIn ?_ ?_ fun b' c' _ => ?_
   ·show (ys.length + 1) * 56 ≤ _; omega
   ·show ys.length + 1 ≤ 9223372036854775807; omega
   have hsucc : ((x.args.take (i + 1)).map T.tm).map Tm.d = ((x.args.take i).map T.tm).map Tm.d ++ [t.tm.d] := by
    rw [List.take_add_one, ht, Option.toList_some]; simp
   exact num64 (by omega) (by omega) ⟨(i + 1, b', c', _, μ''), ⟨by dsimp only; omega, hle.trans hle2, by rw [hsucc]; exact (hrows.mono hle2).append (Rows.one hR (Tm.d_n _))⟩, by dsimp only; omega, ⟨⟨rfl, rfl, rfl, rfl, rfl, trivial⟩, ⟨rfl, rfl, rfl, trivial⟩, rfl, rfl⟩⟩
  ·obtain rfl : i = x.args.length := by omega
   rw [List.take_length] at hrows
   refine rFz [3] fun μ2 hle2 hno hrow => .inl ?_
   rw [T.d_eq]
   exact ⟨_, rfl, RepS.int (RepS.int (RepS.str (RepS.last (Rows.sl hrow (hrows.mono hle2) (Nat.le_trans (m := 10) (by omega) (by decide))))))⟩
end Go.Vx
namespace Go.Vx
open Go.Proofs Classical
theorem var_ok {n : Int} (h : 0 ≤ n ∧ n ≤ 100000) : (T.var n).ok := ⟨h, by simp [T.size]⟩
theorem T.good_subst {f : Int → Option T} (hf : ∀ n y, f n = some y → y.good) : ∀ {x : T}, x.good → (x.subst f).good
 | .var n, h => by
  simp only [T.subst]
  cases e : f n with
  | none => exact h
  | some y => exact hf n y e
 | .pair a b, h => ⟨T.good_subst hf h.1, T.good_subst hf h.2⟩
 | .nil, h => h
 | .sym _, h => h
 | .num _, h => h
end Go.Vx
namespace Go.Vx
open Go.Proofs Classical
section
variable {μ : Mem}
theorem Rep.src {es n cap : Nat} {base : Option Addr} {ds : List D} (h : RepV μ (.sl es ds) (.slice base n cap)) :
  ∃ vs, Rows μ es ds vs ∧ vs.length = n ∧ n ≤ cap ∧ ∀ a b, a ≤ b → b ≤ n → SrcAt μ (if cap = a then base else base.map (·.add (a * es))) (b - a) es ((vs.drop a).take (b - a)) := by
 have h' : Rep μ (.sl es ds) [.slice base n cap] := h
 have hcap := Rep.lens h'
 obtain ⟨b0, c0, h1, h2, h3, h4⟩ := h'
 simp only [List.cons.injEq, and_true] at h1
 have w_ := Value.slice.inj h1
 obtain ⟨rfl, rfl, rfl⟩ := w_
 have : ∃ vs, Rows μ es ds vs ∧ (ds = [] ∨ ∃ a0, base = some a0 ∧ CellsAt μ a0 (vs.flatMap vcells)) := by
  rcases h4 with rfl | ⟨a0, flat, g1, g2, g3⟩
  ·exact ⟨[], .nil, .inl rfl⟩
  ·have w_ := RepS.rows g3 h3
   obtain ⟨vs, hr, rfl⟩ := w_
   exact ⟨vs, hr, .inr ⟨a0, g1, g2⟩⟩
 obtain ⟨vs, hr, hc⟩ := this
 have hlen := hr.len
 refine ⟨vs, hr, hlen.symm, hcap, fun a b hab hb => ⟨by simp; omega, fun y hy => hr.size y (List.mem_of_mem_drop (List.mem_of_mem_take hy)), ?_⟩⟩
 rcases Nat.eq_or_lt_of_le hab with e | hlt
 ·exact .inl (by omega)
 ·right
  rcases hc with e | ⟨a0, e, hcell⟩
  ·subst e; simp at hb; omega
  ·subst e
   refine ⟨a0.add (a * es), by rw [if_neg (by omega)]; rfl, fun j v hj => ?_⟩
   rw [add_add]
   refine hcell _ _ ?_
   have e1 : vs.flatMap vcells = (vs.take a).flatMap vcells ++ (((vs.drop a).take (b - a)).flatMap vcells ++ ((vs.drop a).drop (b - a)).flatMap vcells) := by
    rw [← List.flatMap_append, List.take_append_drop, ← List.flatMap_append, List.take_append_drop]
   have e2 : ((vs.take a).flatMap vcells).length = a * es := by
    rw [flat_len (es := es) (vs.take a) fun y hy => (hr.size y (List.mem_of_mem_take hy)).1]
    congr 1; simp; omega
   rw [e1, List.getElem?_append_right (by omega), e2, Nat.add_sub_cancel_left, List.getElem?_append_left (List.getElem?_eq_some_iff.1 hj).1]
   exact hj
def InsPos (bs : List B) (n : Int) (k : Nat) : Prop := k ≤ bs.length ∧ (∀ c, bs[k - 1]? = some c → 0 < k → c.var ≤ n) ∧ ∀ j c, k ≤ j → bs[j]? = some c → n < c.var
end
end Go.Vx
namespace Go.Vx
open Go.Proofs Classical
structure VK where
 var : Int
 kind : Int
def VK.d (x : VK) : D := .st [.i x.var, .i x.kind]
theorem VK.d_eq (x : VK) : x.d = .st [.i x.var, .i x.kind] := rfl
theorem VK.d_n (x : VK) : x.d.n = 2 := by
 rw [VK.d_eq]
 simp only [D.n, D.ns]
abbrev VK.P := Unit
def VK.cs (x : VK) (_p : VK.P) : List Value := [.int .i64 x.var, .int .i64 x.kind]
section
variable {μ : Mem}
def VK.At (_μ : Mem) (_x : VK) (_p : VK.P) : Prop := True
theorem VK.invA {x : VK} {cs : List Value} (h : Rep μ x.d cs) : ∃ p : VK.P, cs = x.cs p ∧ VK.At μ x p := by
 rw [VK.d_eq] at h
 obtain ⟨a0, t0, rfl, h0, h⟩ := h
 have h0 : a0 = [.int .i64 x.var] := h0
 subst h0
 obtain ⟨a1, t1, rfl, h1, h⟩ := h
 have h1 : a1 = [.int .i64 x.kind] := h1
 subst h1
 obtain rfl : t1 = [] := h
 exact ⟨(), by simp [VK.cs], trivial⟩
theorem VK.rep {x : VK} {cs : List Value} (h : Rep μ x.d cs) : RepV μ x.d (.agg cs.toArray) := by
 rw [VK.d_eq] at h ⊢; exact ⟨cs, rfl, h⟩
theorem VK.inv {x : VK} {v : Value} (h : RepV μ x.d v) : ∃ p : VK.P, v = .agg #[.int .i64 x.var, .int .i64 x.kind] ∧ VK.At μ x p := by
 have h2 : ∃ cs, v = .agg (List.toArray cs) ∧ Rep μ x.d cs := by rw [VK.d_eq] at h ⊢; exact h
 obtain ⟨cs, rfl, h3⟩ := h2
 have w_ := VK.invA h3
 obtain ⟨p, rfl, hA⟩ := w_
 exact ⟨p, rfl, hA⟩
theorem VK.invV {x : VK} {v : Value} (h : RepV μ x.d v) : ∃ _ : VK.P, v = .agg #[.int .i64 x.var, .int .i64 x.kind] := by
 have w_ := VK.inv h
 obtain ⟨p, h, _⟩ := w_
 exact ⟨p, h⟩
theorem VK.elemA {l : List VK} {base : Option Addr} {n : Nat} (h : Sl μ 2 base n (l.map VK.d)) {i : Nat} {x : VK} (hx : l[i]? = some x) : ∃ ad, ∃ p : VK.P, ElemAt μ base n 2 i ad (x.cs p) ∧ RepV μ x.d (.agg (x.cs p).toArray) ∧ VK.At μ x p := by
 have w_ := h.get i x.d (by simp [hx])
 obtain ⟨ad, cs, h1, h2⟩ := w_
 have w_ := VK.invA h2
 obtain ⟨p, rfl, hA⟩ := w_
 exact ⟨ad, p, h1, VK.rep h2, hA⟩
theorem VK.elem {l : List VK} {base : Option Addr} {n : Nat} (h : Sl μ 2 base n (l.map VK.d)) {i : Nat} {x : VK} (hx : l[i]? = some x) : ∃ ad, ∃ p : VK.P, ElemAt μ base n 2 i ad (x.cs p) ∧ RepV μ x.d (.agg (x.cs p).toArray) := by
 have w_ := VK.elemA h hx
 obtain ⟨ad, p, h1, h2, _⟩ := w_
 exact ⟨ad, p, h1, h2⟩
end
end Go.Vx
namespace Go.Vx
open Go.Proofs Classical
open Go.Sort
theorem bitsLen_shift {x k : Nat} (h : 2 ^ k ≤ x) : bitsLen x = bitsLen (x / 2 ^ k) + k := by
 have hpos : 0 < 2 ^ k := Nat.two_pow_pos k
 apply Nat.le_antisymm
 ·rw [bitsLen_le_iff, Nat.pow_add]
  have := lt_two_pow_bitsLen (x / 2 ^ k)
  rw [Nat.div_lt_iff_lt_mul hpos] at this
  exact this
 ·have h1 : k < bitsLen x := by
   rcases Nat.lt_or_ge k (bitsLen x) with h2 | h2
   ·exact h2
   ·have := (bitsLen_le_iff x k).1 h2; omega
  have h3 : bitsLen (x / 2 ^ k) ≤ bitsLen x - k := by
   rw [bitsLen_le_iff, Nat.div_lt_iff_lt_mul hpos, ← Nat.pow_add]
   have : bitsLen x - k + k = bitsLen x := by omega
   rw [this]; exact lt_two_pow_bitsLen x
  omega
section
variable {μ : Mem}
theorem Len64_spec {x : Nat} (hx : x < 18446744073709551616) : Gives Try.prog 151 [.int .u64 x] μ (.int .i64 (bitsLen x)) := by
 obtain ⟨L, hL⟩ : ∃ L, L = bitsLen x := ⟨_, rfl⟩
 rw [← hL]
 refine Spec.mk Try.func151 (by kernel_rfl) ?_
 refine ifd (fun h1 => ?_) (fun h1 => ?_)
 ·refine need_intro (by decide) ?_
  refine nEq (x := ((x / 4294967296 : Nat) : Int)) (by
   show (x : Int).fdiv 4294967296 = _
   rw [Int.fdiv_eq_ediv_of_nonneg _ (by decide)]; rfl) ?_
  have b1 : bitsLen x = bitsLen (x / 4294967296) + 32 := bitsLen_shift (k := 32) (by omega)
  have b2 : x / 4294967296 < 4294967296 := by omega
  generalize x / 4294967296 = y at *
  refine ifd (fun h2 => ?_) (fun h2 => ?_)
  ·refine need_intro (by decide) ?_
   refine nEq (x := ((y / 65536 : Nat) : Int)) (by
    show (y : Int).fdiv 65536 = _
    rw [Int.fdiv_eq_ediv_of_nonneg _ (by decide)]; rfl) ?_
   have b3 : bitsLen y = bitsLen (y / 65536) + 16 := bitsLen_shift (k := 16) (by omega)
   have b4 : y / 65536 < 65536 := by omega
   generalize y / 65536 = z at *
   refine nEq (x := 32 + 16) (by decide) ?_
   refine ifd (fun h3 => ?_) (fun h3 => ?_)
   ·refine need_intro (by decide) ?_
    refine nEq (x := ((z / 256 : Nat) : Int)) (by
     show (z : Int).fdiv 256 = _
     rw [Int.fdiv_eq_ediv_of_nonneg _ (by decide)]; rfl) ?_
    have b5 : bitsLen z = bitsLen (z / 256) + 8 := bitsLen_shift (k := 8) (by omega)
    have b6 : z / 256 < 256 := by omega
    generalize z / 256 = w at *
    refine nEq (x := 32 + 16 + 8) (by decide) ?_
    have b7 : bitsLen w ≤ 8 := (bitsLen_le_iff w 8).2 b6
    refine nEq (x := (w : Int)) (by
     show (w : Int) % 256 = _
     omega) ?_
    refine byte_intro w (UInt8.ofNat (bitsLen w)) rfl ?_ ?_
    ·clear b5 b7
     try clear hw
     revert w
     decide +kernel
    refine nEq (x := (bitsLen w : Int)) (by
     rw [UInt8.toNat_ofNat', Nat.mod_eq_of_lt (by omega), wrap64 (by omega) (by omega)]) ?_
    refine nEq (x := (L : Int)) (by rw [wrap64 (by omega) (by omega)]; omega) ?_
    exact rGv rfl rfl
   ·obtain ⟨w, hw⟩ : ∃ w, w = z := ⟨_, rfl⟩
    have b5 : bitsLen z = bitsLen w + 0 := by rw [hw]; rfl
    have b6 : w < 256 := by omega
    rw [← hw]
    have b7 : bitsLen w ≤ 8 := (bitsLen_le_iff w 8).2 b6
    refine nEq (x := (w : Int)) (by
     show (w : Int) % 256 = _
     omega) ?_
    refine byte_intro w (UInt8.ofNat (bitsLen w)) rfl ?_ ?_
    ·clear b5 b7
     try clear hw
     revert w
     decide +kernel
    refine nEq (x := (bitsLen w : Int)) (by
     rw [UInt8.toNat_ofNat', Nat.mod_eq_of_lt (by omega), wrap64 (by omega) (by omega)]) ?_
    refine nEq (x := (L : Int)) (by rw [wrap64 (by omega) (by omega)]; omega) ?_
    exact rGv rfl rfl
  ·obtain ⟨z, hz⟩ : ∃ z, z = y := ⟨_, rfl⟩
   have b3 : bitsLen y = bitsLen z + 0 := by rw [hz]; rfl
   have b4 : z < 65536 := by omega
   rw [← hz]
   refine ifd (fun h3 => ?_) (fun h3 => ?_)
   ·refine need_intro (by decide) ?_
    refine nEq (x := ((z / 256 : Nat) : Int)) (by
     show (z : Int).fdiv 256 = _
     rw [Int.fdiv_eq_ediv_of_nonneg _ (by decide)]; rfl) ?_
    have b5 : bitsLen z = bitsLen (z / 256) + 8 := bitsLen_shift (k := 8) (by omega)
    have b6 : z / 256 < 256 := by omega
    generalize z / 256 = w at *
    refine nEq (x := 32 + 8) (by decide) ?_
    have b7 : bitsLen w ≤ 8 := (bitsLen_le_iff w 8).2 b6
    refine nEq (x := (w : Int)) (by
     show (w : Int) % 256 = _
     omega) ?_
    refine byte_intro w (UInt8.ofNat (bitsLen w)) rfl ?_ ?_
    ·clear b5 b7
     try clear hw
     revert w
     decide +kernel
    refine nEq (x := (bitsLen w : Int)) (by
     rw [UInt8.toNat_ofNat', Nat.mod_eq_of_lt (by omega), wrap64 (by omega) (by omega)]) ?_
    refine nEq (x := (L : Int)) (by rw [wrap64 (by omega) (by omega)]; omega) ?_
    exact rGv rfl rfl
   ·obtain ⟨w, hw⟩ : ∃ w, w = z := ⟨_, rfl⟩
    have b5 : bitsLen z = bitsLen w + 0 := by rw [hw]; rfl
    have b6 : w < 256 := by omega
    rw [← hw]
    have b7 : bitsLen w ≤ 8 := (bitsLen_le_iff w 8).2 b6
    refine nEq (x := (w : Int)) (by
     show (w : Int) % 256 = _
     omega) ?_
    refine byte_intro w (UInt8.ofNat (bitsLen w)) rfl ?_ ?_
    ·clear b5 b7
     try clear hw
     revert w
     decide +kernel
    refine nEq (x := (bitsLen w : Int)) (by
     rw [UInt8.toNat_ofNat', Nat.mod_eq_of_lt (by omega), wrap64 (by omega) (by omega)]) ?_
    refine nEq (x := (L : Int)) (by rw [wrap64 (by omega) (by omega)]; omega) ?_
    exact rGv rfl rfl
 ·obtain ⟨y, hy⟩ : ∃ y, y = x := ⟨_, rfl⟩
  have b1 : bitsLen x = bitsLen y + 0 := by rw [hy]; rfl
  have b2 : y < 4294967296 := by omega
  rw [← hy]
  refine ifd (fun h2 => ?_) (fun h2 => ?_)
  ·refine need_intro (by decide) ?_
   refine nEq (x := ((y / 65536 : Nat) : Int)) (by
    show (y : Int).fdiv 65536 = _
    rw [Int.fdiv_eq_ediv_of_nonneg _ (by decide)]; rfl) ?_
   have b3 : bitsLen y = bitsLen (y / 65536) + 16 := bitsLen_shift (k := 16) (by omega)
   have b4 : y / 65536 < 65536 := by omega
   generalize y / 65536 = z at *
   refine nEq (x := 0 + 16) (by decide) ?_
   refine ifd (fun h3 => ?_) (fun h3 => ?_)
   ·refine need_intro (by decide) ?_
    refine nEq (x := ((z / 256 : Nat) : Int)) (by
     show (z : Int).fdiv 256 = _
     rw [Int.fdiv_eq_ediv_of_nonneg _ (by decide)]; rfl) ?_
    have b5 : bitsLen z = bitsLen (z / 256) + 8 := bitsLen_shift (k := 8) (by omega)
    have b6 : z / 256 < 256 := by omega
    generalize z / 256 = w at *
    refine nEq (x := 0 + 16 + 8) (by decide) ?_
    have b7 : bitsLen w ≤ 8 := (bitsLen_le_iff w 8).2 b6
    refine nEq (x := (w : Int)) (by
     show (w : Int) % 256 = _
     omega) ?_
    refine byte_intro w (UInt8.ofNat (bitsLen w)) rfl ?_ ?_
    ·clear b5 b7
     try clear hw
     revert w
     decide +kernel
    refine nEq (x := (bitsLen w : Int)) (by
     rw [UInt8.toNat_ofNat', Nat.mod_eq_of_lt (by omega), wrap64 (by omega) (by omega)]) ?_
    refine nEq (x := (L : Int)) (by rw [wrap64 (by omega) (by omega)]; omega) ?_
    exact rGv rfl rfl
   ·obtain ⟨w, hw⟩ : ∃ w, w = z := ⟨_, rfl⟩
    have b5 : bitsLen z = bitsLen w + 0 := by rw [hw]; rfl
    have b6 : w < 256 := by omega
    rw [← hw]
    have b7 : bitsLen w ≤ 8 := (bitsLen_le_iff w 8).2 b6
    refine nEq (x := (w : Int)) (by
     show (w : Int) % 256 = _
     omega) ?_
    refine byte_intro w (UInt8.ofNat (bitsLen w)) rfl ?_ ?_
    ·clear b5 b7
     try clear hw
     revert w
     decide +kernel
    refine nEq (x := (bitsLen w : Int)) (by
     rw [UInt8.toNat_ofNat', Nat.mod_eq_of_lt (by omega), wrap64 (by omega) (by omega)]) ?_
    refine nEq (x := (L : Int)) (by rw [wrap64 (by omega) (by omega)]; omega) ?_
    exact rGv rfl rfl
  ·obtain ⟨z, hz⟩ : ∃ z, z = y := ⟨_, rfl⟩
   have b3 : bitsLen y = bitsLen z + 0 := by rw [hz]; rfl
   have b4 : z < 65536 := by omega
   rw [← hz]
   refine ifd (fun h3 => ?_) (fun h3 => ?_)
   ·refine need_intro (by decide) ?_
    refine nEq (x := ((z / 256 : Nat) : Int)) (by
     show (z : Int).fdiv 256 = _
     rw [Int.fdiv_eq_ediv_of_nonneg _ (by decide)]; rfl) ?_
    have b5 : bitsLen z = bitsLen (z / 256) + 8 := bitsLen_shift (k := 8) (by omega)
    have b6 : z / 256 < 256 := by omega
    generalize z / 256 = w at *
    refine nEq (x := 0 + 8) (by decide) ?_
    have b7 : bitsLen w ≤ 8 := (bitsLen_le_iff w 8).2 b6
    refine nEq (x := (w : Int)) (by
     show (w : Int) % 256 = _
     omega) ?_
    refine byte_intro w (UInt8.ofNat (bitsLen w)) rfl ?_ ?_
    ·clear b5 b7
     try clear hw
     revert w
     decide +kernel
    refine nEq (x := (bitsLen w : Int)) (by
     rw [UInt8.toNat_ofNat', Nat.mod_eq_of_lt (by omega), wrap64 (by omega) (by omega)]) ?_
    refine nEq (x := (L : Int)) (by rw [wrap64 (by omega) (by omega)]; omega) ?_
    exact rGv rfl rfl
   ·obtain ⟨w, hw⟩ : ∃ w, w = z := ⟨_, rfl⟩
    have b5 : bitsLen z = bitsLen w + 0 := by rw [hw]; rfl
    have b6 : w < 256 := by omega
    rw [← hw]
    have b7 : bitsLen w ≤ 8 := (bitsLen_le_iff w 8).2 b6
    refine nEq (x := (w : Int)) (by
     show (w : Int) % 256 = _
     omega) ?_
    refine byte_intro w (UInt8.ofNat (bitsLen w)) rfl ?_ ?_
    ·clear b5 b7
     try clear hw
     revert w
     decide +kernel
    refine nEq (x := (bitsLen w : Int)) (by
     rw [UInt8.toNat_ofNat', Nat.mod_eq_of_lt (by omega), wrap64 (by omega) (by omega)]) ?_
    refine nEq (x := (L : Int)) (by rw [wrap64 (by omega) (by omega)]; omega) ?_
    exact rGv rfl rfl
theorem Len_spec {x : Nat} (hx : x < 18446744073709551616) : Gives Try.prog 120 [.int .u64 x] μ (.int .i64 (bitsLen x)) := by
 refine Spec.mk Try.func120 (by kernel_rfl) ?_
 refine cGv (Len64_spec hx) ?_
 exact rGv rfl rfl
theorem and_le {x m : Int} (h0 : 0 ≤ m) (h1 : m < 18446744073709551616) : 0 ≤ bits .and .u64 x m ∧ bits .and .u64 x m ≤ m := by
 have e : bits .and .u64 x m = (((BitVec.ofInt 64 x &&& BitVec.ofInt 64 m).toNat : Nat) : Int) % 18446744073709551616 := rfl
 have h2 : (BitVec.ofInt 64 m).toNat = m.toNat := by
  rw [BitVec.toNat_ofInt]
  congr 1
  exact Int.emod_eq_of_lt h0 h1
 have h3 : (BitVec.ofInt 64 x &&& BitVec.ofInt 64 m).toNat ≤ m.toNat := by
  rw [BitVec.toNat_and, h2]
  exact Nat.and_le_right
 rw [e]
 omega
end
end Go.Vx
namespace Go.Vx
open Go.Proofs Classical
section
variable {μ : Mem}
theorem Rep.srcAll {es n cap : Nat} {base : Option Addr} {ds : List D} (h : RepV μ (.sl es ds) (.slice base n cap)) : ∃ vs, Rows μ es ds vs ∧ vs.length = n ∧ SrcAt μ base n es vs := by
 have w_ := Rep.src h
 obtain ⟨vs, hrows, hvl, hcap, hsrc⟩ := w_
 have := hsrc 0 n (Nat.zero_le _) (Nat.le_refl _)
 have e1 : (if cap = 0 then base else base.map (·.add (0 * es))) = base := by
  split
  ·rfl
  ·cases base with
   | none => rfl
   | some a => simp [Addr.add]
 rw [e1, Nat.sub_zero, List.drop_zero, List.take_of_length_le (by omega)] at this
 exact ⟨vs, hrows, hvl, this⟩
theorem appl_good {s : List Bd} {t : Tm} {x : T} (h1 : substOk s) (h2 : t.Ok) (h : fit (t.toT.subst (sub (s.map Bd.b))) = some x) : x.good := by
 obtain ⟨bs, rfl, hbs⟩ := h1.subst
 rw [B.map_b] at h
 have w_ := fit_some.1 h
 obtain ⟨_, rfl⟩ := w_
 exact T.good_subst (fun n y hy => (sub_ok hbs.vals.tok hy).1) h2.toT.1.1
theorem var_subst_ok {bs : List B} (h : ∀ b ∈ bs, b.to.ok) {n : Int} (hn : 0 ≤ n ∧ n ≤ 100000) : ((T.var n).subst (sub bs)).ok := by
 rw [T.subst]
 cases e : sub bs n with
 | none => exact ⟨hn, by show (T.var n).size ≤ 5000; simp [T.size]⟩
 | some y => exact sub_ok h e
end
end Go.Vx
namespace Go.Vx
open Go.Proofs Classical
section
variable {μ : Mem}
theorem apartB {h : Mem} {r r' cap es : Nat} {ty : TypeId} {ys : List Value} (hb : RowO h r cap ty es ys) (hap : Apart μ h) (hor : r' = r ∨ (h r' = none ∧ μ r' = none)) : μ r' = none := by
 rcases hor with rfl | ⟨_, h2⟩
 ·obtain ⟨cs, h1, _⟩ := hb
  cases e : μ r' with
  | none => rfl
  | some o => have := hap r' (by simp [e]); rw [h1] at this; cases this
 ·exact h2
end
end Go.Vx
namespace Go.Vx
open Go.Proofs Classical
open Go.Sort
abbrev fdata (lf sf : FuncId) (lb sb : List Value) : Value := .agg #[.func (.func lf) #[] lb.toArray, .func (.func sf) #[] sb.toArray]
abbrev fblk (r : Nat) (lf sf : FuncId) (lb sb : List Value) : List (Nat × Option LB) := [(0, some (.cells r [.val (.func (.func lf) #[] lb.toArray), .val (.func (.func sf) #[] sb.toArray)] 141))]
structure SortBy {α : Type} [Inhabited α] (lf sf : FuncId) (lb sb : List Value) (n : Nat) (lt : α → α → Bool) (μ0 : Mem) (J : Array α → Mem) (V : Array α → Prop) : Prop where
 max : n ≤ 1000000000000
 size : ∀ {d}, V d → d.size = n
 sw : ∀ {d : Array α} {i j : Nat}, V d → i < n → j < n → V (swp d i j)
 dom : ∀ {d d' : Array α} {b : Nat}, V d → V d' → J d b = none → J d' b = none
 less : ∀ {μ : Mem} {d : Array α} {i j : Nat}, μ0.Le μ → V d → i < n → j < n → SpecH Try.prog lf (.int .i64 i :: .int .i64 j :: lb) μ (J d) fun v μ' h' => v = .bool (lt d[i]! d[j]!) ∧ μ' = μ ∧ h' = J d
 swap : ∀ {μ : Mem} {d : Array α} {i j : Nat}, μ0.Le μ → V d → i < n → j < n → SpecH Try.prog sf (.int .i64 i :: .int .i64 j :: sb) μ (J d) fun v μ' h' => v = .tuple #[] ∧ μ' = μ ∧ h' = J (swp d i j)
section
variable {α : Type} [Inhabited α] {lf sf : FuncId} {lb sb : List Value} {n : Nat} {lt : α → α → Bool} {μ0 : Mem} {J : Array α → Mem} {V : Array α → Prop} {μ : Mem} {d : Array α}
theorem insertionSortF_spec (H : SortBy lf sf lb sb n lt μ0 J V) {a b : Nat} (hle : μ0.Le μ) (hV : V d) (ha : a ≤ b) (hb : b ≤ n) :
  SpecH Try.prog 146 [fdata lf sf lb sb, .int .i64 a, .int .i64 b] μ (J d) fun v μ' h' => v = .tuple #[] ∧ μ' = μ ∧ h' = J (insertionSort lt d a b) ∧ V (insertionSort lt d a b) := by
 have hn := H.max
 refine SpecH.mk [] Try.func146 (by kernel_rfl) ?_
 intro r1
 rw [insertionSort]
 generalize hD : insOuter lt a b (a + 1) d = D
 refine nEq (x := ((a + 1 : Nat) : Int)) (by rw [wrap64 (by omega) (by omega)]; omega) ?_
 refine lIn (fun p : Nat × Array α => a + 1 ≤ p.1 ∧ p.1 ≤ max b (a + 1) ∧ V p.2 ∧ insOuter lt a b p.1 p.2 = D)
  (fun (i, d) => ⟨[(1, .val (.int .i64 a)), (2, .val (.int .i64 b)), (3, .loc 0 r1 0), (6, .val (.int .i64 i))], fblk r1 lf sf lb sb, 1, μ, J d⟩) (fun p => b - p.1)
  (a + 1, d) ⟨by omega, by omega, hV, hD⟩ (fun (_, _) => ⟨rfl, rfl⟩) ⟨⟨rfl, rfl, rfl, rfl, trivial⟩, ⟨rfl, trivial⟩, rfl, rfl⟩ ?_
 rintro ⟨i, d1⟩ ⟨hi1, hi2, hs, hJ⟩
 dsimp only at hi1 hi2 hs hJ
 rw [insOuter] at hJ
 refine ifd (fun h => ?_) (fun h => ?_)
 ·rw [if_pos (by omega)] at hJ
  refine lIn (fun p : Nat × Array α => p.1 < n ∧ V p.2 ∧ insInner lt a p.1 p.2 = insInner lt a i d1)
   (fun (j, d) => ⟨[(1, .val (.int .i64 a)), (2, .val (.int .i64 b)), (3, .loc 0 r1 0), (6, .val (.int .i64 i)), (7, .val (.int .i64 j))], fblk r1 lf sf lb sb, 1, μ, J d⟩) (fun p => p.1)
   (i, d1) ⟨by omega, hs, rfl⟩ (fun (_, _) => ⟨rfl, rfl⟩) ⟨⟨rfl, rfl, rfl, rfl, rfl, trivial⟩, ⟨rfl, trivial⟩, rfl, rfl⟩ ?_
  rintro ⟨j, d2⟩ ⟨hj, hs2, hJ2⟩
  dsimp only at hj hs2 hJ2
  refine ifd (fun hja => ?_) (fun hja => ?_)
  ·obtain ⟨j, rfl⟩ : ∃ k, j = k + 1 := ⟨j - 1, by omega⟩
   rw [insInner] at hJ2
   refine nEq (x := ((j : Nat) : Int)) (by rw [wrap64 (by omega) (by omega)]; omega) ?_
   refine cOw (H.less hle hs2 (i := j + 1) (j := j) (by omega) (by omega)) fun v μ' h' hle' hap hR => ?_
   obtain ⟨rfl, e2, rfl⟩ := hR
   obtain rfl := e2.symm
   clear hle' hap
   have g : decide (j + 1 > a) = true := decide_eq_true (by omega)
   refine iIn (fun hl => ?_) (fun hl => ?_)
   ·rw [g, hl, Bool.and_self, if_pos rfl] at hJ2
    refine nEq (x := ((j : Nat) : Int)) (by rw [wrap64 (by omega) (by omega)]; omega) ?_
    refine cOw (H.swap hle hs2 (i := j + 1) (j := j) (by omega) (by omega)) fun v μ' h' hle' hap hR => ?_
    obtain ⟨rfl, e2, rfl⟩ := hR
    obtain rfl := e2.symm
    clear hle' hap
    refine nEq (x := ((j : Nat) : Int)) (by rw [wrap64 (by omega) (by omega)]; omega) ?_
    exact ⟨(j, swp d2 (j + 1) j), ⟨by dsimp only; omega, H.sw hs2 (by omega) (by omega), hJ2⟩, by dsimp only; omega, ⟨⟨rfl, rfl, rfl, rfl, rfl, trivial⟩, ⟨rfl, trivial⟩, rfl, rfl⟩⟩
   ·rw [hl, Bool.and_false, if_neg (by simp)] at hJ2
    exact num64 (by omega) (by omega) ⟨(i + 1, d2), ⟨by dsimp only; omega, by dsimp only; omega, hs2, by dsimp only; rw [hJ2]; exact hJ⟩, by dsimp only; omega, ⟨⟨rfl, rfl, rfl, rfl, trivial⟩, ⟨rfl, trivial⟩, rfl, rfl⟩⟩
  ·have hJ3 : insInner lt a j d2 = d2 := by
    cases j with
    | zero => rfl
    | succ j => rw [insInner, if_neg]; simp; omega
   rw [hJ3] at hJ2
   exact num64 (by omega) (by omega) ⟨(i + 1, d2), ⟨by dsimp only; omega, by dsimp only; omega, hs2, by dsimp only; rw [hJ2]; exact hJ⟩, by dsimp only; omega, ⟨⟨rfl, rfl, rfl, rfl, trivial⟩, ⟨rfl, trivial⟩, rfl, rfl⟩⟩
 ·rw [if_neg (by omega)] at hJ
  subst hJ
  exact rPl ⟨rfl, rfl, rfl, hs⟩
theorem reverseRangeF_spec (H : SortBy lf sf lb sb n lt μ0 J V) {a b : Nat} (hle : μ0.Le μ) (hV : V d) (hb1 : 1 ≤ b) (ha : a ≤ b) (hb : b ≤ n) :
  SpecH Try.prog 155 [fdata lf sf lb sb, .int .i64 a, .int .i64 b] μ (J d) fun v μ' h' => v = .tuple #[] ∧ μ' = μ ∧ h' = J (reverseRange d a b) ∧ V (reverseRange d a b) := by
 have hn := H.max
 refine SpecH.mk [] Try.func155 (by kernel_rfl) ?_
 intro r1
 rw [reverseRange]
 generalize hD : reverseLoop a (b - 1) d = D
 refine nEq (x := ((b - 1 : Nat) : Int)) (by rw [wrap64 (by omega) (by omega)]; omega) ?_
 refine lIn (fun p : Nat × Nat × Array α => p.2.1 < n ∧ p.1 ≤ n ∧ V p.2.2 ∧ reverseLoop p.1 p.2.1 p.2.2 = D)
  (fun (i, j, d) => ⟨[(3, .loc 0 r1 0), (6, .val (.int .i64 i)), (7, .val (.int .i64 j))], fblk r1 lf sf lb sb, 1, μ, J d⟩) (fun p => p.2.1)
  (a, b - 1, d) ⟨by dsimp only; omega, by dsimp only; omega, hV, hD⟩ (fun (_, _, _) => ⟨rfl, rfl⟩) ⟨⟨rfl, rfl, rfl, trivial⟩, ⟨rfl, trivial⟩, rfl, rfl⟩ ?_
 rintro ⟨i, j, d1⟩ ⟨hj, hi, hs, hJ⟩
 dsimp only at hj hi hs hJ
 rw [reverseLoop] at hJ
 refine ifd (fun h => ?_) (fun h => ?_)
 ·rw [if_pos (by omega)] at hJ
  refine cOw (H.swap hle hs (i := i) (j := j) (by omega) (by omega)) fun v μ' h' hle' hap hR => ?_
  obtain ⟨rfl, e2, rfl⟩ := hR
  obtain rfl := e2.symm
  clear hle' hap
  refine nEq (x := ((i + 1 : Nat) : Int)) (by rw [wrap64 (by omega) (by omega)]; omega) ?_
  refine nEq (x := ((j - 1 : Nat) : Int)) (by rw [wrap64 (by omega) (by omega)]; omega) ?_
  exact ⟨(i + 1, j - 1, swp d1 i j), ⟨by dsimp only; omega, by dsimp only; omega, H.sw hs (by omega) (by omega), hJ⟩, by dsimp only; omega, ⟨⟨rfl, rfl, rfl, trivial⟩, ⟨rfl, trivial⟩, rfl, rfl⟩⟩
 ·rw [if_neg (by omega)] at hJ
  subst hJ
  exact rPl ⟨rfl, rfl, rfl, hs⟩
theorem siftDownF_spec (H : SortBy lf sf lb sb n lt μ0 J V) {lo hi first : Nat} (hle : μ0.Le μ) (hV : V d) (hb : first + hi ≤ n) (hl : lo ≤ n) :
  SpecH Try.prog 167 [fdata lf sf lb sb, .int .i64 lo, .int .i64 hi, .int .i64 first] μ (J d) fun v μ' h' => v = .tuple #[] ∧ μ' = μ ∧ h' = J (siftDown lt hi first lo d) ∧ V (siftDown lt hi first lo d) := by
 have hn := H.max
 refine SpecH.mk [] Try.func167 (by kernel_rfl) ?_
 intro r1
 generalize hD : siftDown lt hi first lo d = D
 refine lIn (fun p : Nat × Array α => p.1 ≤ n ∧ V p.2 ∧ siftDown lt hi first p.1 p.2 = D)
  (fun (i, d) => ⟨[(2, .val (.int .i64 hi)), (3, .val (.int .i64 first)), (4, .loc 0 r1 0), (8, .val (.int .i64 i))], fblk r1 lf sf lb sb, 1, μ, J d⟩) (fun p => hi - p.1)
  (lo, d) ⟨hl, hV, hD⟩ (fun (_, _) => ⟨rfl, rfl⟩) ⟨⟨rfl, rfl, rfl, rfl, trivial⟩, ⟨rfl, trivial⟩, rfl, rfl⟩ ?_
 rintro ⟨i, d1⟩ ⟨hi1, hs, hJ⟩
 dsimp only at hi1 hs hJ
 rw [siftDown] at hJ
 refine nEq (x := ((2 * i : Nat) : Int)) (by rw [wrap64 (by omega) (by omega)]; omega) ?_
 refine nEq (x := ((2 * i + 1 : Nat) : Int)) (by rw [wrap64 (by omega) (by omega)]; omega) ?_
 refine ifd (fun h => ?_) (fun h => ?_)
 ·rw [dif_pos (by omega)] at hJ
  subst hJ
  exact rPl ⟨rfl, rfl, rfl, hs⟩
 rw [dif_neg (by omega)] at hJ
 refine nEq (x := ((2 * i + 1 + 1 : Nat) : Int)) (by rw [wrap64 (by omega) (by omega)]; omega) ?_
 refine ifd (fun h2 => ?_) (fun h2 => ?_)
 ·refine nEq (x := ((first + (2 * i + 1) : Nat) : Int)) (by rw [wrap64 (by omega) (by omega)]; omega) ?_
  refine nEq (x := ((first + (2 * i + 1) : Nat) : Int)) (by rw [wrap64 (by omega) (by omega)]; omega) ?_
  refine nEq (x := ((first + (2 * i + 1) + 1 : Nat) : Int)) (by rw [wrap64 (by omega) (by omega)]; omega) ?_
  refine cOw (H.less hle hs (i := first + (2 * i + 1)) (j := first + (2 * i + 1) + 1) (by omega) (by omega)) fun v μ' h' hle' hap hR => ?_
  obtain ⟨rfl, e2, rfl⟩ := hR
  obtain rfl := e2.symm
  clear hle' hap
  have g : decide (2 * i + 1 + 1 < hi) = true := decide_eq_true (by omega)
  refine iIn (fun hl => ?_) (fun hl => ?_)
  ·rw [g, hl, Bool.and_self, if_pos rfl] at hJ
   refine nEq (x := ((2 * i + 2 : Nat) : Int)) (by rw [wrap64 (by omega) (by omega)]; omega) ?_
   refine nEq (x := ((first + i : Nat) : Int)) (by rw [wrap64 (by omega) (by omega)]; omega) ?_
   refine nEq (x := ((first + (2 * i + 2) : Nat) : Int)) (by rw [wrap64 (by omega) (by omega)]; omega) ?_
   refine cOw (H.less hle hs (i := first + i) (j := first + (2 * i + 2)) (by omega) (by omega)) fun v μ' h' hle' hap hR => ?_
   obtain ⟨rfl, e2, rfl⟩ := hR
   obtain rfl := e2.symm
   clear hle' hap
   refine iIn (fun hl => ?_) (fun hl => ?_)
   ·rw [if_pos (by simpa using hl)] at hJ
    subst hJ
    exact rPl ⟨rfl, rfl, rfl, hs⟩
   ·rw [if_neg (by simpa using hl)] at hJ
    try rw [dif_pos (by omega)] at hJ
    refine nEq (x := ((first + i : Nat) : Int)) (by rw [wrap64 (by omega) (by omega)]; omega) ?_
    refine nEq (x := ((first + (2 * i + 2) : Nat) : Int)) (by rw [wrap64 (by omega) (by omega)]; omega) ?_
    refine cOw (H.swap hle hs (i := first + i) (j := first + (2 * i + 2)) (by omega) (by omega)) fun v μ' h' hle' hap hR => ?_
    obtain ⟨rfl, e2, rfl⟩ := hR
    obtain rfl := e2.symm
    clear hle' hap
    exact ⟨(2 * i + 2, swp d1 (first + i) (first + (2 * i + 2))), ⟨by dsimp only; omega, H.sw hs (by omega) (by omega), hJ⟩, by dsimp only; omega, ⟨⟨rfl, rfl, rfl, rfl, trivial⟩, ⟨rfl, trivial⟩, rfl, rfl⟩⟩
  ·rw [hl, Bool.and_false, if_neg (by simp)] at hJ
   refine nEq (x := ((first + i : Nat) : Int)) (by rw [wrap64 (by omega) (by omega)]; omega) ?_
   refine nEq (x := ((first + (2 * i + 1) : Nat) : Int)) (by rw [wrap64 (by omega) (by omega)]; omega) ?_
   refine cOw (H.less hle hs (i := first + i) (j := first + (2 * i + 1)) (by omega) (by omega)) fun v μ' h' hle' hap hR => ?_
   obtain ⟨rfl, e2, rfl⟩ := hR
   obtain rfl := e2.symm
   clear hle' hap
   refine iIn (fun hl => ?_) (fun hl => ?_)
   ·rw [if_pos (by simpa using hl)] at hJ
    subst hJ
    exact rPl ⟨rfl, rfl, rfl, hs⟩
   ·rw [if_neg (by simpa using hl)] at hJ
    try rw [dif_pos (by omega)] at hJ
    refine nEq (x := ((first + i : Nat) : Int)) (by rw [wrap64 (by omega) (by omega)]; omega) ?_
    refine nEq (x := ((first + (2 * i + 1) : Nat) : Int)) (by rw [wrap64 (by omega) (by omega)]; omega) ?_
    refine cOw (H.swap hle hs (i := first + i) (j := first + (2 * i + 1)) (by omega) (by omega)) fun v μ' h' hle' hap hR => ?_
    obtain ⟨rfl, e2, rfl⟩ := hR
    obtain rfl := e2.symm
    clear hle' hap
    exact ⟨(2 * i + 1, swp d1 (first + i) (first + (2 * i + 1))), ⟨by dsimp only; omega, H.sw hs (by omega) (by omega), hJ⟩, by dsimp only; omega, ⟨⟨rfl, rfl, rfl, rfl, trivial⟩, ⟨rfl, trivial⟩, rfl, rfl⟩⟩
 ·have g : decide (2 * i + 1 + 1 < hi) = false := decide_eq_false (by omega)
  rw [g, Bool.false_and, if_neg (by simp)] at hJ
  refine nEq (x := ((first + i : Nat) : Int)) (by rw [wrap64 (by omega) (by omega)]; omega) ?_
  refine nEq (x := ((first + (2 * i + 1) : Nat) : Int)) (by rw [wrap64 (by omega) (by omega)]; omega) ?_
  refine cOw (H.less hle hs (i := first + i) (j := first + (2 * i + 1)) (by omega) (by omega)) fun v μ' h' hle' hap hR => ?_
  obtain ⟨rfl, e2, rfl⟩ := hR
  obtain rfl := e2.symm
  clear hle' hap
  refine iIn (fun hl => ?_) (fun hl => ?_)
  ·rw [if_pos (by simpa using hl)] at hJ
   subst hJ
   exact rPl ⟨rfl, rfl, rfl, hs⟩
  ·rw [if_neg (by simpa using hl)] at hJ
   try rw [dif_pos (by omega)] at hJ
   refine nEq (x := ((first + i : Nat) : Int)) (by rw [wrap64 (by omega) (by omega)]; omega) ?_
   refine nEq (x := ((first + (2 * i + 1) : Nat) : Int)) (by rw [wrap64 (by omega) (by omega)]; omega) ?_
   refine cOw (H.swap hle hs (i := first + i) (j := first + (2 * i + 1)) (by omega) (by omega)) fun v μ' h' hle' hap hR => ?_
   obtain ⟨rfl, e2, rfl⟩ := hR
   obtain rfl := e2.symm
   clear hle' hap
   exact ⟨(2 * i + 1, swp d1 (first + i) (first + (2 * i + 1))), ⟨by dsimp only; omega, H.sw hs (by omega) (by omega), hJ⟩, by dsimp only; omega, ⟨⟨rfl, rfl, rfl, rfl, trivial⟩, ⟨rfl, trivial⟩, rfl, rfl⟩⟩
theorem heapSortF_spec (H : SortBy lf sf lb sb n lt μ0 J V) {a b : Nat} (hle : μ0.Le μ) (hV : V d) (ha : a < b) (hb : b ≤ n) :
  SpecH Try.prog 152 [fdata lf sf lb sb, .int .i64 a, .int .i64 b] μ (J d) fun v μ' h' => v = .tuple #[] ∧ μ' = μ ∧ h' = J (heapSort lt d a b) ∧ V (heapSort lt d a b) := by
 have hn := H.max
 refine SpecH.mk [] Try.func152 (by kernel_rfl) ?_
 intro r1
 rw [heapSort]
 generalize hD1 : heapBuild lt (b - a) a ((b - a - 1) / 2 + 1) d = D1
 generalize hD : heapPop lt a (b - a) D1 = D
 refine nEq (x := ((b - a : Nat) : Int)) (by rw [wrap64 (by omega) (by omega)]; omega) ?_
 refine nEq (x := ((b - a - 1 : Nat) : Int)) (by rw [wrap64 (by omega) (by omega)]; omega) ?_
 refine need_intro (by decide) ?_
 refine nEq (x := (((b - a - 1) / 2 + 1 : Nat) : Int) - 1) (by rw [Int.tdiv_eq_ediv_of_nonneg (by omega), wrap64 (by omega) (by omega)]; omega) ?_
 refine lIn (fun p : Nat × Array α => p.1 ≤ b - a ∧ V p.2 ∧ heapBuild lt (b - a) a p.1 p.2 = D1)
  (fun (k, d) => ⟨[(3, .loc 0 r1 0), (6, .val (.int .i64 a)), (7, .val (.int .i64 0)), (8, .val (.int .i64 (b - a : Nat))), (9, .val (.int .i64 ((k : Int) - 1)))], fblk r1 lf sf lb sb, 1, μ, J d⟩) (fun p => p.1)
  ((b - a - 1) / 2 + 1, d) ⟨by dsimp only; omega, hV, hD1⟩ (fun (_, _) => ⟨rfl, rfl⟩) ⟨⟨rfl, rfl, rfl, rfl, rfl, trivial⟩, ⟨rfl, trivial⟩, rfl, rfl⟩ ?_
 rintro ⟨k, d1⟩ ⟨hk, hs, hJ⟩
 dsimp only at hk hs hJ
 refine ifd (fun h => ?_) (fun h => ?_)
 ·obtain ⟨k, rfl⟩ : ∃ m, k = m + 1 := ⟨k - 1, by omega⟩
  rw [heapBuild] at hJ
  have e : (((k + 1 : Nat) : Int) - 1) = (k : Nat) := by omega
  rw [e]
  refine cOw (siftDownF_spec H (lo := k) (hi := b - a) (first := a) hle hs (by omega) (by omega)) fun v μ' h' hle' hap hR => ?_
  obtain ⟨rfl, e2, rfl, hs2⟩ := hR
  obtain rfl := e2.symm
  refine nEq (x := (k : Int) - 1) (by rw [wrap64 (by omega) (by omega)]) ?_
  exact ⟨(k, siftDown lt (b - a) a k d1), ⟨by dsimp only; omega, hs2, hJ⟩, by dsimp only; omega, ⟨⟨rfl, rfl, rfl, rfl, rfl, trivial⟩, ⟨rfl, trivial⟩, rfl, rfl⟩⟩
 obtain rfl : k = 0 := by omega
 have hJ : d1 = D1 := hJ
 subst hJ
 refine nEq (x := ((b - a : Nat) : Int) - 1) (by rw [wrap64 (by omega) (by omega)]) ?_
 refine lIn (fun p : Nat × Array α => p.1 ≤ b - a ∧ V p.2 ∧ heapPop lt a p.1 p.2 = D)
  (fun (k, d) => ⟨[(3, .loc 0 r1 0), (6, .val (.int .i64 a)), (7, .val (.int .i64 0)), (10, .val (.int .i64 ((k : Int) - 1)))], fblk r1 lf sf lb sb, 1, μ, J d⟩) (fun p => p.1)
  (b - a, d1) ⟨by dsimp only; omega, hs, hD⟩ (fun (_, _) => ⟨rfl, rfl⟩) ⟨⟨rfl, rfl, rfl, rfl, trivial⟩, ⟨rfl, trivial⟩, rfl, rfl⟩ ?_
 rintro ⟨k, d2⟩ ⟨hk, hs2, hJ⟩
 dsimp only at hk hs2 hJ
 refine ifd (fun h => ?_) (fun h => ?_)
 ·obtain ⟨k, rfl⟩ : ∃ m, k = m + 1 := ⟨k - 1, by omega⟩
  rw [heapPop] at hJ
  have e : (((k + 1 : Nat) : Int) - 1) = (k : Nat) := by omega
  rw [e]
  refine nEq (x := ((a + k : Nat) : Int)) (by rw [wrap64 (by omega) (by omega)]; omega) ?_
  refine cOw (H.swap hle hs2 (i := a) (j := a + k) (by omega) (by omega)) fun v μ' h' hle' hap hR => ?_
  obtain ⟨rfl, e2, rfl⟩ := hR
  obtain rfl := e2.symm
  clear hle' hap
  refine cOw (siftDownF_spec H (d := swp d2 a (a + k)) (lo := 0) (hi := k) (first := a) hle (H.sw hs2 (by omega) (by omega)) (by omega) (by omega)) fun v μ' h' hle' hap hR => ?_
  obtain ⟨rfl, e2, rfl, hs3⟩ := hR
  obtain rfl := e2.symm
  refine nEq (x := (k : Int) - 1) (by rw [wrap64 (by omega) (by omega)]) ?_
  exact ⟨(k, _), ⟨by dsimp only; omega, hs3, hJ⟩, by dsimp only; omega, ⟨⟨rfl, rfl, rfl, rfl, trivial⟩, ⟨rfl, trivial⟩, rfl, rfl⟩⟩
 obtain rfl : k = 0 := by omega
 have hJ : d2 = D := hJ
 subst hJ
 exact rPl ⟨rfl, rfl, rfl, hs2⟩
end
end Go.Vx
namespace Go.Vx
open Go.Proofs Classical
open Go.Sort
theorem parts_set {g : Mem} {r : Nat} {o : Obj} (h : g r = none) : Parts (g.set r o) (Mem.nil.set r o) g := fun b => by
 by_cases e : b = r
 ·subst e; exact .inl ⟨by rw [Mem.set_at, Mem.set_at], h⟩
 ·exact .inr ⟨by rw [Mem.set_ne e], by rw [Mem.set_ne e]; rfl⟩
section
variable {α : Type} {J : Array α → Mem} {μ : Mem} {d : Array α} {rs : Nat} {s : Int}
abbrev JS (J : Array α → Mem) (rs : Nat) (s : Int) (d : Array α) : Mem := (J d).set rs (.cells #[.int .i64 s] 3 (0, 0))
theorem rdC {K : List Value → Prop} (h : K [.int .i64 s]) : extVC μ (JS J rs s d) ⟨rs, 0, none⟩ 1 K := oIn _ rfl (box_at (Mem.set_at _ _ _)) h
theorem wrC {v : Int} {K : Mem → Prop} (h : K (JS J rs v d)) : stoVC (JS J rs s d) ⟨rs, 0, none⟩ [.int .i64 v] K := by
 refine sIn [.int .i64 s] 3 (Mem.set_at _ _ _) rfl (Nat.le_refl _) ?_
 have e : Mem.set (JS J rs s d) rs (.cells #[.int .i64 v] 3 (0, 0)) = JS J rs v d := by rw [Mem.set_set]
 show K (Mem.set (JS J rs s d) rs (.cells #[.int .i64 v] 3 (0, 0)))
 rw [e]; exact h
end
section
variable {α : Type} [Inhabited α] {lf sf : FuncId} {lb sb : List Value} {n : Nat} {lt : α → α → Bool} {μ0 : Mem} {J : Array α → Mem} {V : Array α → Prop} {μ : Mem} {d : Array α} {rs : Nat} {s : Int}
theorem SortBy.beside (H : SortBy lf sf lb sb n lt μ0 J V) (o : Obj) (h : ∀ d, V d → J d rs = none) : SortBy lf sf lb sb n lt μ0 (fun d => (J d).set rs o) V where
 max := H.max
 size := H.size
 sw := H.sw
 dom hV hV' hb := by
  simp only [Mem.set_get] at hb ⊢
  split at hb
  ·cases hb
  ·rename_i e; rw [if_neg e]; exact H.dom hV hV' hb
 less hle hV hi hj := (SpecH.frame (parts_set (h _ hV)).symm (H.less hle hV hi hj)).weaken fun v μ' h' _ _ ⟨g, ⟨e1, e2, e3⟩, p⟩ => ⟨e1, e2, by rw [e3] at p; exact p.eq (parts_set (h _ hV)).symm⟩
 swap hle hV hi hj := (SpecH.frame (parts_set (h _ hV)).symm (H.swap hle hV hi hj)).weaken fun v μ' h' _ _ ⟨g, ⟨e1, e2, e3⟩, p⟩ => ⟨e1, e2, by rw [e3] at p; exact p.eq (parts_set (h _ (H.sw hV hi hj))).symm⟩
theorem order2F_spec (H : ∀ s, SortBy lf sf lb sb n lt μ0 (JS J rs s) V) {a b : Nat} (hle : μ0.Le μ) (hV : V d) (ha : a < n) (hb : b < n) :
  SpecH Try.prog 174 [fdata lf sf lb sb, .int .i64 a, .int .i64 b, .pointer (some ⟨rs, 0, none⟩)] μ (JS J rs s d) fun v μ' h' =>
   ∃ x y : Nat, ((x = a ∧ y = b) ∨ (x = b ∧ y = a)) ∧ v = .tuple #[.int .i64 x, .int .i64 y] ∧ μ' = μ ∧ ∃ s', h' = JS J rs s' d := by
 refine SpecH.mk [] Try.func174 (by kernel_rfl) ?_
 intro r1
 refine cOw ((H s).less hle hV (i := b) (j := a) hb ha) fun v μ' h' hle' hap hR => ?_
 obtain ⟨rfl, e2, rfl⟩ := hR
 obtain rfl := e2.symm
 refine iIn (fun hl => ?_) (fun hl => ?_)
 ·refine rdC ?_
  refine num_intro fun x _ => ?_
  refine wrC ?_
  exact rPl ⟨b, a, .inr ⟨rfl, rfl⟩, rfl, rfl, _, rfl⟩
 ·exact rPl ⟨a, b, .inl ⟨rfl, rfl⟩, rfl, rfl, _, rfl⟩
theorem medianF_spec (H : ∀ s, SortBy lf sf lb sb n lt μ0 (JS J rs s) V) {a b c : Nat} (hle : μ0.Le μ) (hV : V d) (ha : a < n) (hb : b < n) (hc : c < n) :
  SpecH Try.prog 171 [fdata lf sf lb sb, .int .i64 a, .int .i64 b, .int .i64 c, .pointer (some ⟨rs, 0, none⟩)] μ (JS J rs s d) fun v μ' h' =>
   ∃ x : Nat, (x = a ∨ x = b ∨ x = c) ∧ v = .int .i64 x ∧ μ' = μ ∧ ∃ s', h' = JS J rs s' d := by
 refine SpecH.mk [] Try.func171 (by kernel_rfl) ?_
 intro r1
 refine cOw (order2F_spec H hle hV ha hb) fun v μ' h' hle' hap hR => ?_
 obtain ⟨x1, y1, o1, rfl, e1, s1, rfl⟩ := hR
 obtain rfl := e1.symm
 refine cOw (order2F_spec H (a := y1) (b := c) hle hV (by omega) hc) fun v μ' h' hle' hap hR => ?_
 obtain ⟨x2, y2, o2, rfl, e2, s2, rfl⟩ := hR
 obtain rfl := e2.symm
 refine cOw (order2F_spec H (a := x1) (b := x2) hle hV (by omega) (by omega)) fun v μ' h' hle' hap hR => ?_
 obtain ⟨x3, y3, o3, rfl, e3, s3, rfl⟩ := hR
 obtain rfl := e3.symm
 exact rPl ⟨y3, by omega, rfl, rfl, _, rfl⟩
theorem medianAdjacentF_spec (H : ∀ s, SortBy lf sf lb sb n lt μ0 (JS J rs s) V) {a : Nat} (hle : μ0.Le μ) (hV : V d) (ha : 1 ≤ a) (hb : a + 1 < n) :
  SpecH Try.prog 170 [fdata lf sf lb sb, .int .i64 a, .pointer (some ⟨rs, 0, none⟩)] μ (JS J rs s d) fun v μ' h' =>
   ∃ x : Nat, (x + 1 = a ∨ x = a ∨ x = a + 1) ∧ v = .int .i64 x ∧ μ' = μ ∧ ∃ s', h' = JS J rs s' d := by
 have hn := (H 0).max
 refine SpecH.mk [] Try.func170 (by kernel_rfl) ?_
 intro r1
 refine nEq (x := ((a - 1 : Nat) : Int)) (by rw [wrap64 (by omega) (by omega)]; omega) ?_
 refine nEq (x := ((a + 1 : Nat) : Int)) (by rw [wrap64 (by omega) (by omega)]; omega) ?_
 refine cOw (medianF_spec H (a := a - 1) (b := a) (c := a + 1) hle hV (by omega) (by omega) (by omega)) fun v μ' h' hle' hap hR => ?_
 obtain ⟨x1, o1, rfl, e1, s1, rfl⟩ := hR
 obtain rfl := e1.symm
 exact rPl ⟨x1, by omega, rfl, rfl, _, rfl⟩
set_option maxHeartbeats 4000000 in
theorem choosePivotF_spec (H : SortBy lf sf lb sb n lt μ0 J V) {a b : Nat} (hle : μ0.Le μ) (hV : V d) (ha : a < b) (hb : b ≤ n) :
  SpecH Try.prog 154 [fdata lf sf lb sb, .int .i64 a, .int .i64 b] μ (J d) fun v _μ' h' =>
   ∃ p k : Nat, a ≤ p ∧ p < b ∧ k ≤ 2 ∧ v = .tuple #[.int .i64 p, .int .i64 k] ∧ h' = J d := by
 have hn := H.max
 refine SpecH.mk [9] Try.func154 (by kernel_rfl) ?_
 intro r1
 refine nEq (x := ((b - a : Nat) : Int)) (by rw [wrap64 (by omega) (by omega)]; omega) ?_
 intro rs hm ho
 have hdom : ∀ d', V d' → J d' rs = none := fun d' hV' => H.dom hV hV' ho
 have H2 : ∀ s, SortBy lf sf lb sb n lt μ0 (JS J rs s) V := fun s => H.beside _ hdom
 have hp : ∀ s, Parts (JS J rs s d) (Mem.nil.set rs (.cells #[.int .i64 s] 3 (0, 0))) (J d) := fun s => parts_set (hdom d hV)
 generalize hH : Mem.set (J d) rs _ = H1
 obtain rfl : H1 = JS J rs 0 d := hH.symm
 clear hH hm
 refine need_intro (by decide) ?_
 refine nEq (x := (((b - a) / 4 : Nat) : Int)) (by rw [Int.tdiv_eq_ediv_of_nonneg (by omega), wrap64 (by omega) (by omega)]; omega) ?_
 refine nEq (x := (((b - a) / 4 * 1 : Nat) : Int)) (by rw [wrap64 (by omega) (by omega)]; omega) ?_
 refine nEq (x := ((a + (b - a) / 4 * 1 : Nat) : Int)) (by rw [wrap64 (by omega) (by omega)]; omega) ?_
 refine need_intro (by decide) ?_
 refine nEq (x := (((b - a) / 4 : Nat) : Int)) (by rw [Int.tdiv_eq_ediv_of_nonneg (by omega), wrap64 (by omega) (by omega)]; omega) ?_
 refine nEq (x := (((b - a) / 4 * 2 : Nat) : Int)) (by rw [wrap64 (by omega) (by omega)]; omega) ?_
 refine nEq (x := ((a + (b - a) / 4 * 2 : Nat) : Int)) (by rw [wrap64 (by omega) (by omega)]; omega) ?_
 refine need_intro (by decide) ?_
 refine nEq (x := (((b - a) / 4 : Nat) : Int)) (by rw [Int.tdiv_eq_ediv_of_nonneg (by omega), wrap64 (by omega) (by omega)]; omega) ?_
 refine nEq (x := (((b - a) / 4 * 3 : Nat) : Int)) (by rw [wrap64 (by omega) (by omega)]; omega) ?_
 refine nEq (x := ((a + (b - a) / 4 * 3 : Nat) : Int)) (by rw [wrap64 (by omega) (by omega)]; omega) ?_
 refine ifd (fun h8 => ?_) (fun h8 => ?_)
 ·refine ifd (fun h50 => ?_) (fun h50 => ?_)
  ·refine cOw (medianAdjacentF_spec H2 (a := a + (b - a) / 4 * 1) hle hV (by omega) (by omega)) fun v μ' h' hle' hap hR => ?_
   obtain ⟨x1, o1, rfl, e1, s1, rfl⟩ := hR
   obtain rfl := e1.symm
   refine cOw (medianAdjacentF_spec H2 (a := a + (b - a) / 4 * 2) hle hV (by omega) (by omega)) fun v μ' h' hle' hap hR => ?_
   obtain ⟨x2, o2, rfl, e1, s2, rfl⟩ := hR
   obtain rfl := e1.symm
   refine cOw (medianAdjacentF_spec H2 (a := a + (b - a) / 4 * 3) hle hV (by omega) (by omega)) fun v μ' h' hle' hap hR => ?_
   obtain ⟨x3, o3, rfl, e1, s3, rfl⟩ := hR
   obtain rfl := e1.symm
   refine cOw (medianF_spec H2 (a := x1) (b := x2) (c := x3) hle hV (by omega) (by omega) (by omega)) fun v μ' h' hle' hap hR => ?_
   obtain ⟨x4, o4, rfl, e1, s4, rfl⟩ := hR
   obtain rfl := e1.symm
   refine rdC ?_
   refine ifd (fun h1 => ?_) (fun h1 => ?_)
   ·exact ret_own _ _ (hp _) ⟨x4, 1, by omega, by omega, by omega, rfl, rfl⟩
   refine ifd (fun h1 => ?_) (fun h1 => ?_)
   ·exact ret_own _ _ (hp _) ⟨x4, 2, by omega, by omega, by omega, rfl, rfl⟩
   exact ret_own _ _ (hp _) ⟨x4, 0, by omega, by omega, by omega, rfl, rfl⟩
  ·refine cOw (medianF_spec H2 (a := a + (b - a) / 4 * 1) (b := a + (b - a) / 4 * 2) (c := a + (b - a) / 4 * 3) hle hV (by omega) (by omega) (by omega)) fun v μ' h' hle' hap hR => ?_
   obtain ⟨x4, o4, rfl, e1, s4, rfl⟩ := hR
   obtain rfl := e1.symm
   refine rdC ?_
   refine ifd (fun h1 => ?_) (fun h1 => ?_)
   ·exact ret_own _ _ (hp _) ⟨x4, 1, by omega, by omega, by omega, rfl, rfl⟩
   refine ifd (fun h1 => ?_) (fun h1 => ?_)
   ·exact ret_own _ _ (hp _) ⟨x4, 2, by omega, by omega, by omega, rfl, rfl⟩
   exact ret_own _ _ (hp _) ⟨x4, 0, by omega, by omega, by omega, rfl, rfl⟩
 ·refine rdC ?_
  refine ifd (fun h1 => ?_) (fun h1 => ?_)
  ·exact ret_own _ _ (hp _) ⟨a + (b - a) / 4 * 2, 1, by omega, by omega, by omega, rfl, rfl⟩
  refine ifd (fun h1 => ?_) (fun h1 => ?_)
  ·exact ret_own _ _ (hp _) ⟨a + (b - a) / 4 * 2, 2, by omega, by omega, by omega, rfl, rfl⟩
  exact ret_own _ _ (hp _) ⟨a + (b - a) / 4 * 2, 0, by omega, by omega, by omega, rfl, rfl⟩
end
end Go.Vx
namespace Go.Vx
open Go.Proofs Classical
open Go.Sort
section
variable {α : Type} [Inhabited α] {lf sf : FuncId} {lb sb : List Value} {n : Nat} {lt : α → α → Bool} {μ0 : Mem} {J : Array α → Mem} {V : Array α → Prop} {μ : Mem} {d : Array α}
theorem partitionEqualF_spec (H : SortBy lf sf lb sb n lt μ0 J V) {a b pivot : Nat} (hle : μ0.Le μ) (hV : V d) (hap : a ≤ pivot) (hpb : pivot < b) (hb : b ≤ n) :
  SpecH Try.prog 157 [fdata lf sf lb sb, .int .i64 a, .int .i64 b, .int .i64 pivot] μ (J d) fun v μ' h' => v = .int .i64 (partitionEqual lt d a b pivot).1 ∧ μ' = μ ∧ h' = J (partitionEqual lt d a b pivot).2 ∧ V (partitionEqual lt d a b pivot).2 := by
 have hn := H.max
 refine SpecH.mk [] Try.func157 (by kernel_rfl) ?_
 intro r1
 rw [partitionEqual]
 generalize hR : partEqLoop lt a (a + 1) (b - 1) (swp d a pivot) = R
 refine cOw (H.swap hle hV (i := a) (j := pivot) (by omega) (by omega)) fun v μ' h' hle' hap hR => ?_
 obtain ⟨rfl, e2, rfl⟩ := hR
 obtain rfl := e2.symm
 clear hle' hap
 refine nEq (x := ((a + 1 : Nat) : Int)) (by rw [wrap64 (by omega) (by omega)]; omega) ?_
 refine nEq (x := ((b - 1 : Nat) : Int)) (by rw [wrap64 (by omega) (by omega)]; omega) ?_
 refine lIn (fun p : Nat × Nat × Array α => a < p.1 ∧ p.1 ≤ p.2.1 + 2 ∧ p.2.1 < b ∧ V p.2.2 ∧ partEqLoop lt a p.1 p.2.1 p.2.2 = R)
  (fun (i, j, d) => ⟨[(1, .val (.int .i64 a)), (4, .loc 0 r1 0), (9, .val (.int .i64 i)), (10, .val (.int .i64 j))], fblk r1 lf sf lb sb, 1, μ, J d⟩) (fun p => p.2.1 + 1 - p.1)
  (a + 1, b - 1, swp d a pivot) ⟨by dsimp only; omega, by dsimp only; omega, by dsimp only; omega, H.sw hV (by omega) (by omega), hR⟩ (fun (_, _, _) => ⟨rfl, rfl⟩) ⟨⟨rfl, rfl, rfl, rfl, trivial⟩, ⟨rfl, trivial⟩, rfl, rfl⟩ ?_
 clear hR
 rintro ⟨i, j, d1⟩ ⟨hai, hij0, hjb, hs, hR⟩
 dsimp only at hai hij0 hjb hs hR
 rw [partEqLoop_eq] at hR
 generalize hU : scanUp (fun x => !lt d1[a]! x) d1 j i = U at *
 refine lIn (fun i' : Nat => i ≤ i' ∧ i' ≤ j + 2 ∧ scanUp (fun x => !lt d1[a]! x) d1 j i' = U) (fun i' => ⟨[(1, .val (.int .i64 a)), (4, .loc 0 r1 0), (9, .val (.int .i64 i')), (10, .val (.int .i64 j))], fblk r1 lf sf lb sb, 1, μ, J d1⟩) (fun i' => j + 1 - i')
  i ⟨by omega, by omega, hU⟩ (fun _ => ⟨rfl, rfl⟩) ⟨⟨rfl, rfl, rfl, rfl, trivial⟩, ⟨rfl, trivial⟩, rfl, rfl⟩ ?_
 clear hU
 rintro i' ⟨h1, h2, hU⟩
 rw [scanUp] at hU
 refine ifd (fun hij => ?_) (fun hij => ?_)
 refine cOw (H.less hle hs (i := a) (j := i') (by omega) (by omega)) fun v μ' h' hle' hap hR => ?_
 obtain ⟨rfl, e2, rfl⟩ := hR
 obtain rfl := e2.symm
 clear hle' hap
 refine iIn (fun hl => ?_) (fun hl => ?_)
 ·rw [if_pos (by simp only [Bool.and_eq_true, decide_eq_true_eq]; exact ⟨by omega, hl⟩)] at hU
  refine nEq (x := ((i' + 1 : Nat) : Int)) (by rw [wrap64 (by omega) (by omega)]; omega) ?_
  exact ⟨i' + 1, ⟨by omega, by omega, hU⟩, by omega, ⟨⟨rfl, rfl, rfl, rfl, trivial⟩, ⟨rfl, trivial⟩, rfl, rfl⟩⟩
 rw [if_neg (by simp only [Bool.and_eq_true, hl]; simp)] at hU
 rotate_left
 rw [if_neg (by simp; omega)] at hU
 obtain rfl := hU
 rotate_left
 obtain rfl := hU
 rotate_left
 all_goals
  generalize hV : scanDown (fun x => lt d1[a]! x) d1 i' j = V at *
  refine lIn (fun j' : Nat => j' ≤ j ∧ 0 ≤ j' ∧ scanDown (fun x => lt d1[a]! x) d1 i' j' = V) (fun j' => ⟨[(1, .val (.int .i64 a)), (4, .loc 0 r1 0), (9, .val (.int .i64 i')), (10, .val (.int .i64 j'))], fblk r1 lf sf lb sb, 1, μ, J d1⟩) (fun j' => j')
   j ⟨by omega, by omega, hV⟩ (fun _ => ⟨rfl, rfl⟩) ⟨⟨rfl, rfl, rfl, rfl, trivial⟩, ⟨rfl, trivial⟩, rfl, rfl⟩ ?_
  clear hV
  rintro j' ⟨g1, g2, hV⟩
  refine ifd (fun hij2 => ?_) (fun hij2 => ?_)
  obtain ⟨k, rfl⟩ : ∃ k, j' = k + 1 := ⟨j' - 1, by omega⟩
  rw [scanDown] at hV
  refine cOw (H.less hle hs (i := a) (j := k + 1) (by omega) (by omega)) fun v μ' h' hle' hap hR => ?_
  obtain ⟨rfl, e2, rfl⟩ := hR
  obtain rfl := e2.symm
  clear hle' hap
  refine iIn (fun hl => ?_) (fun hl => ?_)
  ·rw [if_pos (by simp only [Bool.and_eq_true, decide_eq_true_eq]; exact ⟨by omega, hl⟩)] at hV
   refine nEq (x := ((k : Nat) : Int)) (by rw [wrap64 (by omega) (by omega)]; omega) ?_
   exact ⟨k, ⟨by omega, by omega, hV⟩, by omega, ⟨⟨rfl, rfl, rfl, rfl, trivial⟩, ⟨rfl, trivial⟩, rfl, rfl⟩⟩
  rw [if_neg (by simp only [Bool.and_eq_true, hl]; simp)] at hV
  obtain rfl := hV
  generalize k + 1 = j' at *
  rotate_left
  replace hV : j' = V := by
   cases j' with
   | zero => exact hV
   | succ k => rwa [scanDown, if_neg (by simp; omega)] at hV
  obtain rfl := hV
  rotate_left
 all_goals
  refine ifd (fun hgt => ?_) (fun hgt => ?_)
  ·rw [if_pos (by omega)] at hR
   subst hR
   exact rPl ⟨rfl, rfl, rfl, hs⟩
  ·rw [if_neg (by omega)] at hR
   refine cOw (H.swap hle hs (i := i') (j := j') (by omega) (by omega)) fun v μ' h' hle' hap hR => ?_
   obtain ⟨rfl, e2, rfl⟩ := hR
   obtain rfl := e2.symm
   clear hle' hap
   refine nEq (x := ((i' + 1 : Nat) : Int)) (by rw [wrap64 (by omega) (by omega)]; omega) ?_
   refine nEq (x := ((j' - 1 : Nat) : Int)) (by rw [wrap64 (by omega) (by omega)]; omega) ?_
   exact ⟨(i' + 1, j' - 1, swp d1 i' j'), ⟨by dsimp only; omega, by dsimp only; omega, by dsimp only; omega, H.sw hs (by omega) (by omega), hR⟩, by dsimp only; omega, ⟨⟨rfl, rfl, rfl, rfl, trivial⟩, ⟨rfl, trivial⟩, rfl, rfl⟩⟩
set_option maxHeartbeats 4000000 in
theorem partitionF_spec (H : SortBy lf sf lb sb n lt μ0 J V) {a b pivot : Nat} (hle : μ0.Le μ) (hV : V d) (hap : a ≤ pivot) (hpb : pivot < b) (hb : b ≤ n) :
  SpecH Try.prog 158 [fdata lf sf lb sb, .int .i64 a, .int .i64 b, .int .i64 pivot] μ (J d) fun v μ' h' => (∃ ap, v = .tuple #[.int .i64 (partition lt d a b pivot).1, .bool ap]) ∧ μ' = μ ∧ h' = J (partition lt d a b pivot).2.2 ∧ V (partition lt d a b pivot).2.2 := by
 have hn := H.max
 refine SpecH.mk [] Try.func158 (by kernel_rfl) ?_
 intro r1
 rw [partition_fst, partition_arr]
 generalize hR : partLoop lt a (a + 1) (b - 1) (swp d a pivot) = R
 refine cOw (H.swap hle hV (i := a) (j := pivot) (by omega) (by omega)) fun v μ' h' hle' hap hR => ?_
 obtain ⟨rfl, e2, rfl⟩ := hR
 obtain rfl := e2.symm
 clear hle' hap
 refine nEq (x := ((a + 1 : Nat) : Int)) (by rw [wrap64 (by omega) (by omega)]; omega) ?_
 refine nEq (x := ((b - 1 : Nat) : Int)) (by rw [wrap64 (by omega) (by omega)]; omega) ?_
 have hs : V (swp d a pivot) := H.sw hV (by omega) (by omega)
 generalize swp d a pivot = d1 at *
 obtain ⟨i, hi⟩ : ∃ i, i = a + 1 := ⟨_, rfl⟩
 obtain ⟨j, hj⟩ : ∃ j, j = b - 1 := ⟨_, rfl⟩
 have hai : a < i := by omega
 have hij0 : i ≤ j + 2 := by omega
 have hjb : j < b := by omega
 rw [← hi, ← hj] at hR ⊢
 clear hi hj
 rw [partLoop_eq] at hR
 generalize hU : scanUp (fun x => lt x d1[a]!) d1 j i = U at *
 refine lIn (fun i' : Nat => i ≤ i' ∧ i' ≤ j + 2 ∧ scanUp (fun x => lt x d1[a]!) d1 j i' = U) (fun i' => ⟨[(1, .val (.int .i64 a)), (4, .loc 0 r1 0), (10, .val (.int .i64 i')), (11, .val (.int .i64 j))], fblk r1 lf sf lb sb, 1, μ, J d1⟩) (fun i' => j + 1 - i')
  i ⟨by omega, by omega, hU⟩ (fun _ => ⟨rfl, rfl⟩) ⟨⟨rfl, rfl, rfl, rfl, trivial⟩, ⟨rfl, trivial⟩, rfl, rfl⟩ ?_
 clear hU
 rintro i' ⟨h1, h2, hU⟩
 rw [scanUp] at hU
 refine ifd (fun hij => ?_) (fun hij => ?_)
 refine cOw (H.less hle hs (i := i') (j := a) (by omega) (by omega)) fun v μ' h' hle' hap hR => ?_
 obtain ⟨rfl, e2, rfl⟩ := hR
 obtain rfl := e2.symm
 clear hle' hap
 refine iIn (fun hl => ?_) (fun hl => ?_)
 ·rw [if_pos (by simp only [Bool.and_eq_true, decide_eq_true_eq]; exact ⟨by omega, hl⟩)] at hU
  refine nEq (x := ((i' + 1 : Nat) : Int)) (by rw [wrap64 (by omega) (by omega)]; omega) ?_
  exact ⟨i' + 1, ⟨by omega, by omega, hU⟩, by omega, ⟨⟨rfl, rfl, rfl, rfl, trivial⟩, ⟨rfl, trivial⟩, rfl, rfl⟩⟩
 rw [if_neg (by simp only [Bool.and_eq_true, hl]; simp)] at hU
 rotate_left
 rw [if_neg (by simp; omega)] at hU
 obtain rfl := hU
 rotate_left
 obtain rfl := hU
 rotate_left
 all_goals
  generalize hV : scanDown (fun x => !lt x d1[a]!) d1 i' j = V at *
  refine lIn (fun j' : Nat => j' ≤ j ∧ 0 ≤ j' ∧ scanDown (fun x => !lt x d1[a]!) d1 i' j' = V) (fun j' => ⟨[(1, .val (.int .i64 a)), (4, .loc 0 r1 0), (10, .val (.int .i64 i')), (11, .val (.int .i64 j'))], fblk r1 lf sf lb sb, 1, μ, J d1⟩) (fun j' => j')
   j ⟨by omega, by omega, hV⟩ (fun _ => ⟨rfl, rfl⟩) ⟨⟨rfl, rfl, rfl, rfl, trivial⟩, ⟨rfl, trivial⟩, rfl, rfl⟩ ?_
  clear hV
  rintro j' ⟨g1, g2, hV⟩
  refine ifd (fun hij2 => ?_) (fun hij2 => ?_)
  obtain ⟨k, rfl⟩ : ∃ k, j' = k + 1 := ⟨j' - 1, by omega⟩
  rw [scanDown] at hV
  refine cOw (H.less hle hs (i := k + 1) (j := a) (by omega) (by omega)) fun v μ' h' hle' hap hR => ?_
  obtain ⟨rfl, e2, rfl⟩ := hR
  obtain rfl := e2.symm
  clear hle' hap
  refine iIn (fun hl => ?_) (fun hl => ?_)
  ·rw [if_pos (by simp only [Bool.and_eq_true, decide_eq_true_eq]; exact ⟨by omega, hl⟩)] at hV
   refine nEq (x := ((k : Nat) : Int)) (by rw [wrap64 (by omega) (by omega)]; omega) ?_
   exact ⟨k, ⟨by omega, by omega, hV⟩, by omega, ⟨⟨rfl, rfl, rfl, rfl, trivial⟩, ⟨rfl, trivial⟩, rfl, rfl⟩⟩
  rw [if_neg (by simp only [Bool.and_eq_true, hl]; simp)] at hV
  obtain rfl := hV
  generalize k + 1 = j' at *
  rotate_left
  replace hV : j' = V := by
   cases j' with
   | zero => exact hV
   | succ k => rwa [scanDown, if_neg (by simp; omega)] at hV
  obtain rfl := hV
  rotate_left
 all_goals
  refine ifd (fun hgt => ?_) (fun hgt => ?_)
  ·rw [if_pos (by omega)] at hR
   subst hR
   refine cOw (H.swap hle hs (i := j') (j := a) (by omega) (by omega)) fun v μ' h' hle' hap hR => ?_
   obtain ⟨rfl, e2, rfl⟩ := hR
   obtain rfl := e2.symm
   clear hle' hap
   exact rPl ⟨⟨_, rfl⟩, rfl, rfl, H.sw hs (by omega) (by omega)⟩
  ·rw [if_neg (by omega)] at hR
   refine cOw (H.swap hle hs (i := i') (j := j') (by omega) (by omega)) fun v μ' h' hle' hap hR => ?_
   obtain ⟨rfl, e2, rfl⟩ := hR
   obtain rfl := e2.symm
   clear hle' hap
   refine nEq (x := ((i' + 1 : Nat) : Int)) (by rw [wrap64 (by omega) (by omega)]; omega) ?_
   refine nEq (x := ((j' - 1 : Nat) : Int)) (by rw [wrap64 (by omega) (by omega)]; omega) ?_
   refine lIn (fun p : Nat × Nat × Array α => a < p.1 ∧ p.1 ≤ p.2.1 + 2 ∧ p.2.1 < b ∧ V p.2.2 ∧ partLoop lt a p.1 p.2.1 p.2.2 = R)
    (fun (i, j, d) => ⟨[(1, .val (.int .i64 a)), (4, .loc 0 r1 0), (10, .val (.int .i64 i)), (11, .val (.int .i64 j))], fblk r1 lf sf lb sb, 1, μ, J d⟩) (fun p => p.2.1 + 1 - p.1)
    (i' + 1, j' - 1, swp d1 i' j') ⟨by dsimp only; omega, by dsimp only; omega, by dsimp only; omega, H.sw hs (by omega) (by omega), hR⟩ (fun (_, _, _) => ⟨rfl, rfl⟩) ⟨⟨rfl, rfl, rfl, rfl, trivial⟩, ⟨rfl, trivial⟩, rfl, rfl⟩ ?_
   clear hR hgt hs hai hij0 hjb h1 h2 g1 g2
   rintro ⟨i, j, d1⟩ ⟨hai, hij0, hjb, hs, hR⟩
   dsimp only at hai hij0 hjb hs hR
   rw [partLoop_eq] at hR
   generalize hU : scanUp (fun x => lt x d1[a]!) d1 j i = U at *
   refine lIn (fun i' : Nat => i ≤ i' ∧ i' ≤ j + 2 ∧ scanUp (fun x => lt x d1[a]!) d1 j i' = U) (fun i' => ⟨[(1, .val (.int .i64 a)), (4, .loc 0 r1 0), (10, .val (.int .i64 i')), (11, .val (.int .i64 j))], fblk r1 lf sf lb sb, 1, μ, J d1⟩) (fun i' => j + 1 - i')
    i ⟨by omega, by omega, hU⟩ (fun _ => ⟨rfl, rfl⟩) ⟨⟨rfl, rfl, rfl, rfl, trivial⟩, ⟨rfl, trivial⟩, rfl, rfl⟩ ?_
   clear hU
   rintro i' ⟨h1, h2, hU⟩
   rw [scanUp] at hU
   refine ifd (fun hij => ?_) (fun hij => ?_)
   refine cOw (H.less hle hs (i := i') (j := a) (by omega) (by omega)) fun v μ' h' hle' hap hR => ?_
   obtain ⟨rfl, e2, rfl⟩ := hR
   obtain rfl := e2.symm
   clear hle' hap
   refine iIn (fun hl => ?_) (fun hl => ?_)
   ·rw [if_pos (by simp only [Bool.and_eq_true, decide_eq_true_eq]; exact ⟨by omega, hl⟩)] at hU
    refine nEq (x := ((i' + 1 : Nat) : Int)) (by rw [wrap64 (by omega) (by omega)]; omega) ?_
    exact ⟨i' + 1, ⟨by omega, by omega, hU⟩, by omega, ⟨⟨rfl, rfl, rfl, rfl, trivial⟩, ⟨rfl, trivial⟩, rfl, rfl⟩⟩
   rw [if_neg (by simp only [Bool.and_eq_true, hl]; simp)] at hU
   rotate_left
   rw [if_neg (by simp; omega)] at hU
   obtain rfl := hU
   rotate_left
   obtain rfl := hU
   rotate_left
   all_goals
    generalize hV : scanDown (fun x => !lt x d1[a]!) d1 i' j = V at *
    refine lIn (fun j' : Nat => j' ≤ j ∧ 0 ≤ j' ∧ scanDown (fun x => !lt x d1[a]!) d1 i' j' = V) (fun j' => ⟨[(1, .val (.int .i64 a)), (4, .loc 0 r1 0), (10, .val (.int .i64 i')), (11, .val (.int .i64 j'))], fblk r1 lf sf lb sb, 1, μ, J d1⟩) (fun j' => j')
     j ⟨by omega, by omega, hV⟩ (fun _ => ⟨rfl, rfl⟩) ⟨⟨rfl, rfl, rfl, rfl, trivial⟩, ⟨rfl, trivial⟩, rfl, rfl⟩ ?_
    clear hV
    rintro j' ⟨g1, g2, hV⟩
    refine ifd (fun hij2 => ?_) (fun hij2 => ?_)
    obtain ⟨k, rfl⟩ : ∃ k, j' = k + 1 := ⟨j' - 1, by omega⟩
    rw [scanDown] at hV
    refine cOw (H.less hle hs (i := k + 1) (j := a) (by omega) (by omega)) fun v μ' h' hle' hap hR => ?_
    obtain ⟨rfl, e2, rfl⟩ := hR
    obtain rfl := e2.symm
    clear hle' hap
    refine iIn (fun hl => ?_) (fun hl => ?_)
    ·rw [if_pos (by simp only [Bool.and_eq_true, decide_eq_true_eq]; exact ⟨by omega, hl⟩)] at hV
     refine nEq (x := ((k : Nat) : Int)) (by rw [wrap64 (by omega) (by omega)]; omega) ?_
     exact ⟨k, ⟨by omega, by omega, hV⟩, by omega, ⟨⟨rfl, rfl, rfl, rfl, trivial⟩, ⟨rfl, trivial⟩, rfl, rfl⟩⟩
    rw [if_neg (by simp only [Bool.and_eq_true, hl]; simp)] at hV
    obtain rfl := hV
    generalize k + 1 = j' at *
    rotate_left
    replace hV : j' = V := by
     cases j' with
     | zero => exact hV
     | succ k => rwa [scanDown, if_neg (by simp; omega)] at hV
    obtain rfl := hV
    rotate_left
   all_goals
    refine ifd (fun hgt => ?_) (fun hgt => ?_)
    ·rw [if_pos (by omega)] at hR
     subst hR
     refine cOw (H.swap hle hs (i := j') (j := a) (by omega) (by omega)) fun v μ' h' hle' hap hR => ?_
     obtain ⟨rfl, e2, rfl⟩ := hR
     obtain rfl := e2.symm
     clear hle' hap
     exact rPl ⟨⟨_, rfl⟩, rfl, rfl, H.sw hs (by omega) (by omega)⟩
    ·rw [if_neg (by omega)] at hR
     refine cOw (H.swap hle hs (i := i') (j := j') (by omega) (by omega)) fun v μ' h' hle' hap hR => ?_
     obtain ⟨rfl, e2, rfl⟩ := hR
     obtain rfl := e2.symm
     clear hle' hap
     refine nEq (x := ((i' + 1 : Nat) : Int)) (by rw [wrap64 (by omega) (by omega)]; omega) ?_
     refine nEq (x := ((j' - 1 : Nat) : Int)) (by rw [wrap64 (by omega) (by omega)]; omega) ?_
     exact ⟨(i' + 1, j' - 1, swp d1 i' j'), ⟨by dsimp only; omega, by dsimp only; omega, by dsimp only; omega, H.sw hs (by omega) (by omega), hR⟩, by dsimp only; omega, ⟨⟨rfl, rfl, rfl, rfl, trivial⟩, ⟨rfl, trivial⟩, rfl, rfl⟩⟩
end
end Go.Vx
namespace Go.Vx
open Go.Proofs Classical
open Go.Sort
section
variable {α : Type} [Inhabited α] {lf sf : FuncId} {lb sb : List Value} {n : Nat} {lt : α → α → Bool} {μ0 : Mem} {J : Array α → Mem} {V : Array α → Prop} {μ : Mem} {d : Array α}
set_option maxHeartbeats 8000000 in
theorem partialInsertionSortF_spec (H : SortBy lf sf lb sb n lt μ0 J V) {a b : Nat} (hle : μ0.Le μ) (hV : V d) (ha : a < b) (hb : b ≤ n) :
  SpecH Try.prog 156 [fdata lf sf lb sb, .int .i64 a, .int .i64 b] μ (J d) fun v μ' h' => v = .bool (partialInsertionSort lt d a b).2 ∧ μ' = μ ∧ h' = J (partialInsertionSort lt d a b).1 ∧ V (partialInsertionSort lt d a b).1 := by
 have hn := H.max
 refine SpecH.mk [] Try.func156 (by kernel_rfl) ?_
 intro r1
 rw [partialInsertionSort]
 generalize hR : partialIns lt a b 5 (a + 1) d = R
 refine nEq (x := ((a + 1 : Nat) : Int)) (by rw [wrap64 (by omega) (by omega)]; omega) ?_
 refine lIn (fun p : Nat × Nat × Array α => p.1 ≤ 5 ∧ a < p.2.1 ∧ p.2.1 ≤ b ∧ V p.2.2 ∧ partialIns lt a b p.1 p.2.1 p.2.2 = R)
  (fun (t, i, d) => ⟨[(1, .val (.int .i64 a)), (2, .val (.int .i64 b)), (3, .loc 0 r1 0), (7, .val (.int .i64 i)), (8, .val (.int .i64 (5 - (t : Int))))], fblk r1 lf sf lb sb, 1, μ, J d⟩) (fun p => p.1)
  (5, a + 1, d) ⟨by dsimp only; omega, by dsimp only; omega, by dsimp only; omega, hV, hR⟩ (fun (_, _, _) => ⟨rfl, rfl⟩) ⟨⟨rfl, rfl, rfl, rfl, rfl, trivial⟩, ⟨rfl, trivial⟩, rfl, rfl⟩ ?_
 clear hR
 rintro ⟨t, i, d1⟩ ⟨ht, hai, hib, hs, hR⟩
 dsimp only at ht hai hib hs hR
 refine ifd (fun h5 => ?_) (fun h5 => ?_)
 rotate_left
 ·obtain rfl : t = 0 := by omega
  rw [partialIns] at hR
  subst hR
  exact rPl ⟨rfl, rfl, rfl, hs⟩
 obtain ⟨t, rfl⟩ : ∃ k, t = k + 1 := ⟨t - 1, by omega⟩
 rw [partialIns_succ] at hR
 generalize hS : scanSorted lt d1 b i = S at *
 refine lIn (fun i' : Nat => i ≤ i' ∧ i' ≤ b ∧ scanSorted lt d1 b i' = S) (fun i' => ⟨[(1, .val (.int .i64 a)), (2, .val (.int .i64 b)), (3, .loc 0 r1 0), (7, .val (.int .i64 i')), (8, .val (.int .i64 (5 - ((t + 1 : Nat) : Int))))], fblk r1 lf sf lb sb, 1, μ, J d1⟩) (fun i' => b - i')
  i ⟨by omega, by omega, hS⟩ (fun _ => ⟨rfl, rfl⟩) ⟨⟨rfl, rfl, rfl, rfl, rfl, trivial⟩, ⟨rfl, trivial⟩, rfl, rfl⟩ ?_
 clear hS
 rintro i' ⟨h1, h2, hS⟩
 rw [scanSorted] at hS
 refine ifd (fun hlt => ?_) (fun hlt => ?_)
 rotate_left
 ·rw [if_neg (by simp; omega)] at hS
  obtain rfl := hS
  rw [if_pos (by omega)] at hR
  subst hR
  refine ifd (fun _ => ?_) (fun h => absurd (by omega) h)
  exact rPl ⟨rfl, rfl, rfl, hs⟩
 refine nEq (x := ((i' - 1 : Nat) : Int)) (by rw [wrap64 (by omega) (by omega)]; omega) ?_
 refine cOw (H.less hle hs (i := i') (j := i' - 1) (by omega) (by omega)) fun v μ' h' hle' hap hR => ?_
 obtain ⟨rfl, e2, rfl⟩ := hR
 obtain rfl := e2.symm
 clear hle' hap
 refine iIn (fun hl => ?_) (fun hl => ?_)
 ·rw [if_pos (by simp only [Bool.and_eq_true, decide_eq_true_eq]; exact ⟨by omega, hl⟩)] at hS
  refine nEq (x := ((i' + 1 : Nat) : Int)) (by rw [wrap64 (by omega) (by omega)]; omega) ?_
  exact ⟨i' + 1, ⟨by omega, by omega, hS⟩, by omega, ⟨⟨rfl, rfl, rfl, rfl, rfl, trivial⟩, ⟨rfl, trivial⟩, rfl, rfl⟩⟩
 rw [if_neg (by simp only [Bool.and_eq_true, hl]; simp)] at hS
 obtain rfl := hS
 refine ifd (fun h => absurd h (by omega)) (fun _ => ?_)
 rw [if_neg (by omega)] at hR
 refine nEq (x := ((b - a : Nat) : Int)) (by rw [wrap64 (by omega) (by omega)]; omega) ?_
 refine ifd (fun h50 => ?_) (fun h50 => ?_)
 ·rw [if_pos (by omega)] at hR
  subst hR
  exact rPl ⟨rfl, rfl, rfl, hs⟩
 rw [if_neg (by omega)] at hR
 refine nEq (x := ((i' - 1 : Nat) : Int)) (by rw [wrap64 (by omega) (by omega)]; omega) ?_
 refine cOw (H.swap hle hs (i := i') (j := i' - 1) (by omega) (by omega)) fun v μ' h' hle' hap hR => ?_
 obtain ⟨rfl, e2, rfl⟩ := hR
 obtain rfl := e2.symm
 clear hle' hap
 have hs2 : V (swp d1 i' (i' - 1)) := H.sw hs (by omega) (by omega)
 generalize swp d1 i' (i' - 1) = d2 at *
 refine nEq (x := ((i' - a : Nat) : Int)) (by rw [wrap64 (by omega) (by omega)]; omega) ?_
 unfold fixDown at hR
 refine ifd (fun hd2 => ?_) (fun hd2 => ?_)
 ·rw [if_pos (by omega)] at hR
  refine nEq (x := ((i' - 1 : Nat) : Int)) (by rw [wrap64 (by omega) (by omega)]; omega) ?_
  generalize hD : shiftDown lt (i' - 1) d2 = D2 at *
  refine lIn (fun p : Nat × Array α => p.1 ≤ i' - 1 ∧ V p.2 ∧ shiftDown lt p.1 p.2 = D2) (fun (j, d) => ⟨[(1, .val (.int .i64 a)), (2, .val (.int .i64 b)), (3, .loc 0 r1 0), (7, .val (.int .i64 i')), (8, .val (.int .i64 (5 - ((t + 1 : Nat) : Int)))), (9, .val (.int .i64 j))], fblk r1 lf sf lb sb, 1, μ, J d⟩) (fun p => p.1)
   (i' - 1, d2) ⟨by dsimp only; omega, hs2, hD⟩ (fun (_, _) => ⟨rfl, rfl⟩) ⟨⟨rfl, rfl, rfl, rfl, rfl, rfl, trivial⟩, ⟨rfl, trivial⟩, rfl, rfl⟩ ?_
  clear hD
  rintro ⟨j, d3⟩ ⟨hj, hs3, hD⟩
  dsimp only at hj hs3 hD
  refine ifd (fun hj1 => ?_) (fun hj1 => ?_)
  ·obtain ⟨k, rfl⟩ : ∃ k, j = k + 1 := ⟨j - 1, by omega⟩
   rw [shiftDown] at hD
   refine nEq (x := ((k : Nat) : Int)) (by rw [wrap64 (by omega) (by omega)]; omega) ?_
   refine cOw (H.less hle hs3 (i := k + 1) (j := k) (by omega) (by omega)) fun v μ' h' hle' hap hR => ?_
   obtain ⟨rfl, e2, rfl⟩ := hR
   obtain rfl := e2.symm
   clear hle' hap
   refine iIn (fun hl2 => ?_) (fun hl2 => ?_)
   ·rw [if_pos hl2] at hD
    obtain rfl := hD
    refine nEq (x := ((b - i' : Nat) : Int)) (by rw [wrap64 (by omega) (by omega)]; omega) ?_
    unfold fixUp at hR
    refine ifd (fun hu2 => ?_) (fun hu2 => ?_)
    ·rw [if_pos (by omega)] at hR
     refine nEq (x := ((i' + 1 : Nat) : Int)) (by rw [wrap64 (by omega) (by omega)]; omega) ?_
     generalize hE : shiftUp lt b (i' + 1) d3 = D4 at *
     refine lIn (fun p : Nat × Array α => i' + 1 ≤ p.1 ∧ p.1 ≤ b + 1 ∧ V p.2 ∧ shiftUp lt b p.1 p.2 = D4) (fun (j, d) => ⟨[(1, .val (.int .i64 a)), (2, .val (.int .i64 b)), (3, .loc 0 r1 0), (7, .val (.int .i64 i')), (8, .val (.int .i64 (5 - ((t + 1 : Nat) : Int)))), (10, .val (.int .i64 j))], fblk r1 lf sf lb sb, 1, μ, J d⟩) (fun p => b - p.1)
      (i' + 1, d3) ⟨by dsimp only; omega, by dsimp only; omega, hs3, hE⟩ (fun (_, _) => ⟨rfl, rfl⟩) ⟨⟨rfl, rfl, rfl, rfl, rfl, rfl, trivial⟩, ⟨rfl, trivial⟩, rfl, rfl⟩ ?_
     clear hE
     rintro ⟨j2, d5⟩ ⟨hj2, hjb2, hs5, hE⟩
     dsimp only at hj2 hjb2 hs5 hE
     rw [shiftUp] at hE
     refine ifd (fun hj1 => ?_) (fun hj1 => ?_)
     ·rw [if_pos (by omega)] at hE
      refine nEq (x := ((j2 - 1 : Nat) : Int)) (by rw [wrap64 (by omega) (by omega)]; omega) ?_
      refine cOw (H.less hle hs5 (i := j2) (j := j2 - 1) (by omega) (by omega)) fun v μ' h' hle' hap hR => ?_
      obtain ⟨rfl, e2, rfl⟩ := hR
      obtain rfl := e2.symm
      clear hle' hap
      refine iIn (fun hl3 => ?_) (fun hl3 => ?_)
      ·rw [if_pos hl3] at hE
       obtain rfl := hE
       refine nEq (x := 5 - (t : Int)) (by rw [wrap64 (by omega) (by omega)]; omega) ?_
       exact ⟨(t, i', d5), ⟨by dsimp only; omega, by dsimp only; omega, by dsimp only; omega, hs5, hR⟩, by dsimp only; omega, ⟨⟨rfl, rfl, rfl, rfl, rfl, trivial⟩, ⟨rfl, trivial⟩, rfl, rfl⟩⟩
      ·rw [if_neg (by simp only [hl3]; simp)] at hE
       refine nEq (x := ((j2 - 1 : Nat) : Int)) (by rw [wrap64 (by omega) (by omega)]; omega) ?_
       refine cOw (H.swap hle hs5 (i := j2) (j := j2 - 1) (by omega) (by omega)) fun v μ' h' hle' hap hR => ?_
       obtain ⟨rfl, e2, rfl⟩ := hR
       obtain rfl := e2.symm
       clear hle' hap
       refine nEq (x := ((j2 + 1 : Nat) : Int)) (by rw [wrap64 (by omega) (by omega)]; omega) ?_
       exact ⟨(j2 + 1, swp d5 j2 (j2 - 1)), ⟨by dsimp only; omega, by dsimp only; omega, H.sw hs5 (by omega) (by omega), hE⟩, by dsimp only; omega, ⟨⟨rfl, rfl, rfl, rfl, rfl, rfl, trivial⟩, ⟨rfl, trivial⟩, rfl, rfl⟩⟩
     ·rw [if_neg (by omega)] at hE
      obtain rfl := hE
      refine nEq (x := 5 - (t : Int)) (by rw [wrap64 (by omega) (by omega)]; omega) ?_
      exact ⟨(t, i', d5), ⟨by dsimp only; omega, by dsimp only; omega, by dsimp only; omega, hs5, hR⟩, by dsimp only; omega, ⟨⟨rfl, rfl, rfl, rfl, rfl, trivial⟩, ⟨rfl, trivial⟩, rfl, rfl⟩⟩
    ·rw [if_neg (by omega)] at hR
     refine nEq (x := 5 - (t : Int)) (by rw [wrap64 (by omega) (by omega)]; omega) ?_
     exact ⟨(t, i', d3), ⟨by dsimp only; omega, by dsimp only; omega, by dsimp only; omega, hs3, hR⟩, by dsimp only; omega, ⟨⟨rfl, rfl, rfl, rfl, rfl, trivial⟩, ⟨rfl, trivial⟩, rfl, rfl⟩⟩
   ·rw [if_neg (by simp only [hl2]; simp)] at hD
    refine nEq (x := ((k : Nat) : Int)) (by rw [wrap64 (by omega) (by omega)]; omega) ?_
    refine cOw (H.swap hle hs3 (i := k + 1) (j := k) (by omega) (by omega)) fun v μ' h' hle' hap hR => ?_
    obtain ⟨rfl, e2, rfl⟩ := hR
    obtain rfl := e2.symm
    clear hle' hap
    refine nEq (x := ((k : Nat) : Int)) (by rw [wrap64 (by omega) (by omega)]; omega) ?_
    exact ⟨(k, swp d3 (k + 1) k), ⟨by dsimp only; omega, H.sw hs3 (by omega) (by omega), hD⟩, by dsimp only; omega, ⟨⟨rfl, rfl, rfl, rfl, rfl, rfl, trivial⟩, ⟨rfl, trivial⟩, rfl, rfl⟩⟩
  ·obtain rfl : j = 0 := by omega
   have hD : d3 = D2 := hD
   obtain rfl := hD
   refine nEq (x := ((b - i' : Nat) : Int)) (by rw [wrap64 (by omega) (by omega)]; omega) ?_
   unfold fixUp at hR
   refine ifd (fun hu2 => ?_) (fun hu2 => ?_)
   ·rw [if_pos (by omega)] at hR
    refine nEq (x := ((i' + 1 : Nat) : Int)) (by rw [wrap64 (by omega) (by omega)]; omega) ?_
    generalize hE : shiftUp lt b (i' + 1) d3 = D4 at *
    refine lIn (fun p : Nat × Array α => i' + 1 ≤ p.1 ∧ p.1 ≤ b + 1 ∧ V p.2 ∧ shiftUp lt b p.1 p.2 = D4) (fun (j, d) => ⟨[(1, .val (.int .i64 a)), (2, .val (.int .i64 b)), (3, .loc 0 r1 0), (7, .val (.int .i64 i')), (8, .val (.int .i64 (5 - ((t + 1 : Nat) : Int)))), (10, .val (.int .i64 j))], fblk r1 lf sf lb sb, 1, μ, J d⟩) (fun p => b - p.1)
     (i' + 1, d3) ⟨by dsimp only; omega, by dsimp only; omega, hs3, hE⟩ (fun (_, _) => ⟨rfl, rfl⟩) ⟨⟨rfl, rfl, rfl, rfl, rfl, rfl, trivial⟩, ⟨rfl, trivial⟩, rfl, rfl⟩ ?_
    clear hE
    rintro ⟨j2, d5⟩ ⟨hj2, hjb2, hs5, hE⟩
    dsimp only at hj2 hjb2 hs5 hE
    rw [shiftUp] at hE
    refine ifd (fun hj1 => ?_) (fun hj1 => ?_)
    ·rw [if_pos (by omega)] at hE
     refine nEq (x := ((j2 - 1 : Nat) : Int)) (by rw [wrap64 (by omega) (by omega)]; omega) ?_
     refine cOw (H.less hle hs5 (i := j2) (j := j2 - 1) (by omega) (by omega)) fun v μ' h' hle' hap hR => ?_
     obtain ⟨rfl, e2, rfl⟩ := hR
     obtain rfl := e2.symm
     clear hle' hap
     refine iIn (fun hl3 => ?_) (fun hl3 => ?_)
     ·rw [if_pos hl3] at hE
      obtain rfl := hE
      refine nEq (x := 5 - (t : Int)) (by rw [wrap64 (by omega) (by omega)]; omega) ?_
      exact ⟨(t, i', d5), ⟨by dsimp only; omega, by dsimp only; omega, by dsimp only; omega, hs5, hR⟩, by dsimp only; omega, ⟨⟨rfl, rfl, rfl, rfl, rfl, trivial⟩, ⟨rfl, trivial⟩, rfl, rfl⟩⟩
     ·rw [if_neg (by simp only [hl3]; simp)] at hE
      refine nEq (x := ((j2 - 1 : Nat) : Int)) (by rw [wrap64 (by omega) (by omega)]; omega) ?_
      refine cOw (H.swap hle hs5 (i := j2) (j := j2 - 1) (by omega) (by omega)) fun v μ' h' hle' hap hR => ?_
      obtain ⟨rfl, e2, rfl⟩ := hR
      obtain rfl := e2.symm
      clear hle' hap
      refine nEq (x := ((j2 + 1 : Nat) : Int)) (by rw [wrap64 (by omega) (by omega)]; omega) ?_
      exact ⟨(j2 + 1, swp d5 j2 (j2 - 1)), ⟨by dsimp only; omega, by dsimp only; omega, H.sw hs5 (by omega) (by omega), hE⟩, by dsimp only; omega, ⟨⟨rfl, rfl, rfl, rfl, rfl, rfl, trivial⟩, ⟨rfl, trivial⟩, rfl, rfl⟩⟩
    ·rw [if_neg (by omega)] at hE
     obtain rfl := hE
     refine nEq (x := 5 - (t : Int)) (by rw [wrap64 (by omega) (by omega)]; omega) ?_
     exact ⟨(t, i', d5), ⟨by dsimp only; omega, by dsimp only; omega, by dsimp only; omega, hs5, hR⟩, by dsimp only; omega, ⟨⟨rfl, rfl, rfl, rfl, rfl, trivial⟩, ⟨rfl, trivial⟩, rfl, rfl⟩⟩
   ·rw [if_neg (by omega)] at hR
    refine nEq (x := 5 - (t : Int)) (by rw [wrap64 (by omega) (by omega)]; omega) ?_
    exact ⟨(t, i', d3), ⟨by dsimp only; omega, by dsimp only; omega, by dsimp only; omega, hs3, hR⟩, by dsimp only; omega, ⟨⟨rfl, rfl, rfl, rfl, rfl, trivial⟩, ⟨rfl, trivial⟩, rfl, rfl⟩⟩
 ·rw [if_neg (by omega)] at hR
  refine nEq (x := ((b - i' : Nat) : Int)) (by rw [wrap64 (by omega) (by omega)]; omega) ?_
  unfold fixUp at hR
  refine ifd (fun hu2 => ?_) (fun hu2 => ?_)
  ·rw [if_pos (by omega)] at hR
   refine nEq (x := ((i' + 1 : Nat) : Int)) (by rw [wrap64 (by omega) (by omega)]; omega) ?_
   generalize hE : shiftUp lt b (i' + 1) d2 = D4 at *
   refine lIn (fun p : Nat × Array α => i' + 1 ≤ p.1 ∧ p.1 ≤ b + 1 ∧ V p.2 ∧ shiftUp lt b p.1 p.2 = D4) (fun (j, d) => ⟨[(1, .val (.int .i64 a)), (2, .val (.int .i64 b)), (3, .loc 0 r1 0), (7, .val (.int .i64 i')), (8, .val (.int .i64 (5 - ((t + 1 : Nat) : Int)))), (10, .val (.int .i64 j))], fblk r1 lf sf lb sb, 1, μ, J d⟩) (fun p => b - p.1)
    (i' + 1, d2) ⟨by dsimp only; omega, by dsimp only; omega, hs2, hE⟩ (fun (_, _) => ⟨rfl, rfl⟩) ⟨⟨rfl, rfl, rfl, rfl, rfl, rfl, trivial⟩, ⟨rfl, trivial⟩, rfl, rfl⟩ ?_
   clear hE
   rintro ⟨j2, d5⟩ ⟨hj2, hjb2, hs5, hE⟩
   dsimp only at hj2 hjb2 hs5 hE
   rw [shiftUp] at hE
   refine ifd (fun hj1 => ?_) (fun hj1 => ?_)
   ·rw [if_pos (by omega)] at hE
    refine nEq (x := ((j2 - 1 : Nat) : Int)) (by rw [wrap64 (by omega) (by omega)]; omega) ?_
    refine cOw (H.less hle hs5 (i := j2) (j := j2 - 1) (by omega) (by omega)) fun v μ' h' hle' hap hR => ?_
    obtain ⟨rfl, e2, rfl⟩ := hR
    obtain rfl := e2.symm
    clear hle' hap
    refine iIn (fun hl3 => ?_) (fun hl3 => ?_)
    ·rw [if_pos hl3] at hE
     obtain rfl := hE
     refine nEq (x := 5 - (t : Int)) (by rw [wrap64 (by omega) (by omega)]; omega) ?_
     exact ⟨(t, i', d5), ⟨by dsimp only; omega, by dsimp only; omega, by dsimp only; omega, hs5, hR⟩, by dsimp only; omega, ⟨⟨rfl, rfl, rfl, rfl, rfl, trivial⟩, ⟨rfl, trivial⟩, rfl, rfl⟩⟩
    ·rw [if_neg (by simp only [hl3]; simp)] at hE
     refine nEq (x := ((j2 - 1 : Nat) : Int)) (by rw [wrap64 (by omega) (by omega)]; omega) ?_
     refine cOw (H.swap hle hs5 (i := j2) (j := j2 - 1) (by omega) (by omega)) fun v μ' h' hle' hap hR => ?_
     obtain ⟨rfl, e2, rfl⟩ := hR
     obtain rfl := e2.symm
     clear hle' hap
     refine nEq (x := ((j2 + 1 : Nat) : Int)) (by rw [wrap64 (by omega) (by omega)]; omega) ?_
     exact ⟨(j2 + 1, swp d5 j2 (j2 - 1)), ⟨by dsimp only; omega, by dsimp only; omega, H.sw hs5 (by omega) (by omega), hE⟩, by dsimp only; omega, ⟨⟨rfl, rfl, rfl, rfl, rfl, rfl, trivial⟩, ⟨rfl, trivial⟩, rfl, rfl⟩⟩
   ·rw [if_neg (by omega)] at hE
    obtain rfl := hE
    refine nEq (x := 5 - (t : Int)) (by rw [wrap64 (by omega) (by omega)]; omega) ?_
    exact ⟨(t, i', d5), ⟨by dsimp only; omega, by dsimp only; omega, by dsimp only; omega, hs5, hR⟩, by dsimp only; omega, ⟨⟨rfl, rfl, rfl, rfl, rfl, trivial⟩, ⟨rfl, trivial⟩, rfl, rfl⟩⟩
  ·rw [if_neg (by omega)] at hR
   refine nEq (x := 5 - (t : Int)) (by rw [wrap64 (by omega) (by omega)]; omega) ?_
   exact ⟨(t, i', d2), ⟨by dsimp only; omega, by dsimp only; omega, by dsimp only; omega, hs2, hR⟩, by dsimp only; omega, ⟨⟨rfl, rfl, rfl, rfl, rfl, trivial⟩, ⟨rfl, trivial⟩, rfl, rfl⟩⟩
end
end Go.Vx
namespace Go.Vx
open Go.Proofs Classical
open Go.Sort
section
variable {α : Type} {J : Array α → Mem} {μ : Mem} {d : Array α} {rs : Nat} {s : Int}
abbrev JX (J : Array α → Mem) (rs : Nat) (s : Int) (d : Array α) : Mem := (J d).set rs (.cells #[.int .u64 s] 173 (0, 0))
theorem rdX' {K : List Value → Prop} (h : K [.int .u64 s]) : extVC μ (JX J rs s d) ⟨rs, 0, none⟩ 1 K := oIn _ rfl (box_at (Mem.set_at _ _ _)) h
theorem wrX' {v : Int} {K : Mem → Prop} (h : K (JX J rs v d)) : stoVC (JX J rs s d) ⟨rs, 0, none⟩ [.int .u64 v] K := by
 refine sIn [.int .u64 s] 173 (Mem.set_at _ _ _) rfl (Nat.le_refl _) ?_
 have e : Mem.set (JX J rs s d) rs (.cells #[.int .u64 v] 173 (0, 0)) = JX J rs v d := by rw [Mem.set_set]
 show K (Mem.set (JX J rs s d) rs (.cells #[.int .u64 v] 173 (0, 0)))
 rw [e]; exact h
theorem NextF_spec : SpecH Try.prog 169 [.pointer (some ⟨rs, 0, none⟩)] μ (JX J rs s d) fun v μ' h' => ∃ s', v = .int .u64 s' ∧ μ' = μ ∧ h' = JX J rs s' d := by
 refine SpecH.mk [] Try.func169 (by kernel_rfl) ?_
 refine rdX' ?_
 refine rdX' ?_
 refine need_intro (by decide) ?_
 refine num_intro fun _ _ => ?_
 refine num_intro fun _ _ => ?_
 refine wrX' ?_
 refine rdX' ?_
 refine rdX' ?_
 refine need_intro (by decide) ?_
 refine num_intro fun _ _ => ?_
 refine num_intro fun _ _ => ?_
 refine wrX' ?_
 refine rdX' ?_
 refine rdX' ?_
 refine need_intro (by decide) ?_
 refine num_intro fun _ _ => ?_
 refine num_intro fun _ _ => ?_
 refine wrX' ?_
 refine rdX' ?_
 exact rPl ⟨_, rfl, rfl, rfl⟩
end
section
variable {α : Type} [Inhabited α] {lf sf : FuncId} {lb sb : List Value} {n : Nat} {lt : α → α → Bool} {μ0 : Mem} {J : Array α → Mem} {V : Array α → Prop} {μ : Mem} {d : Array α} {rs : Nat} {s : Int}
theorem nextPowerOfTwoF_spec {x : Nat} (hx : x ≤ 1000000000000) : Gives Try.prog 168 [.int .i64 x] μ (.int .u64 ((2 ^ bitsLen x : Nat) : Int)) := by
 refine Spec.mk Try.func168 (by kernel_rfl) ?_
 have h1 : bitsLen x ≤ 40 := (bitsLen_le_iff x 40).2 (by omega)
 have h2 : 2 ^ bitsLen x ≤ 2 ^ 40 := Nat.pow_le_pow_right (by decide) h1
 have h3 : (2 : Nat) ^ 40 = 1099511627776 := by decide
 refine nEq (x := (x : Int)) (by
  show (x : Int) % 18446744073709551616 = _
  omega) ?_
 refine cGv (Len_spec (by omega)) ?_
 refine nEq (x := (bitsLen x : Int)) (by
  show ((bitsLen x : Nat) : Int) % 18446744073709551616 = _
  omega) ?_
 refine need_intro (by omega) ?_
 refine nEq (x := ((2 ^ bitsLen x : Nat) : Int)) (by
  have e : min ((bitsLen x : Int).toNat) IntKind.u64.bits = bitsLen x := by
   show min ((bitsLen x : Int).toNat) 64 = bitsLen x
   omega
  rw [e]
  have h4 : ((2 : Int) ^ bitsLen x) = ((2 ^ bitsLen x : Nat) : Int) := by rw [Int.natCast_pow]; rfl
  show (1 * (2 : Int) ^ bitsLen x) % 18446744073709551616 = _
  rw [Int.one_mul, h4]
  generalize 2 ^ bitsLen x = P at *
  omega) ?_
 exact rGv rfl rfl
theorem breakPatternsF_spec (H : SortBy lf sf lb sb n lt μ0 J V) {a b : Nat} (hle : μ0.Le μ) (hV : V d) (ha : a + 8 ≤ b) (hb : b ≤ n) :
  SpecH Try.prog 153 [fdata lf sf lb sb, .int .i64 a, .int .i64 b] μ (J d) fun v _μ' h' => v = .tuple #[] ∧ ∃ d', PermIn a b d d' ∧ h' = J d' ∧ V d' := by
 have hn := H.max
 refine SpecH.mk [7] Try.func153 (by kernel_rfl) ?_
 intro r1
 refine nEq (x := ((b - a : Nat) : Int)) (by rw [wrap64 (by omega) (by omega)]; omega) ?_
 refine ifd (fun h8 => ?_) (fun h8 => by omega)
 refine num_intro fun s0 _ => ?_
 intro rs hm ho
 have hdom : ∀ d', V d' → J d' rs = none := fun d' hV' => H.dom hV hV' ho
 have H2 : ∀ s, SortBy lf sf lb sb n lt μ0 (JX J rs s) V := fun s => H.beside _ hdom
 generalize hH : Mem.set (J d) rs _ = H1
 obtain rfl : H1 = JX J rs 0 d := hH.symm
 clear hH hm
 refine wrX' ?_
 refine cGv (nextPowerOfTwoF_spec (x := b - a) (by omega)) ?_
 have hP1 : 1 ≤ 2 ^ bitsLen (b - a) := Nat.two_pow_pos _
 have hP2 : 2 ^ bitsLen (b - a) ≤ 2 * (b - a) := two_pow_bitsLen_le (by omega)
 generalize 2 ^ bitsLen (b - a) = P at *
 refine need_intro (by decide) ?_
 refine nEq (x := (((b - a) / 4 : Nat) : Int)) (by rw [Int.tdiv_eq_ediv_of_nonneg (by omega), wrap64 (by omega) (by omega)]; omega) ?_
 refine nEq (x := (((b - a) / 4 * 2 : Nat) : Int)) (by rw [wrap64 (by omega) (by omega)]; omega) ?_
 refine nEq (x := ((a + (b - a) / 4 * 2 : Nat) : Int)) (by rw [wrap64 (by omega) (by omega)]; omega) ?_
 refine nEq (x := ((a + (b - a) / 4 * 2 - 1 : Nat) : Int)) (by rw [wrap64 (by omega) (by omega)]; omega) ?_
 refine lIn (fun p : Nat × Array α × Int => a + (b - a) / 4 * 2 ≤ p.1 + 1 ∧ p.1 ≤ a + (b - a) / 4 * 2 + 2 ∧ V p.2.1 ∧ PermIn a b d p.2.1)
  (fun (i, d, s) => ⟨[(1, .val (.int .i64 a)), (3, .loc 0 r1 0), (6, .val (.int .i64 (b - a : Nat))), (7, .val (.pointer (some ⟨rs, 0, none⟩))), (8, .val (.int .u64 P)), (9, .val (.int .i64 i))], fblk r1 lf sf lb sb, 1, μ, JX J rs s d⟩) (fun p => a + (b - a) / 4 * 2 + 3 - p.1)
  (a + (b - a) / 4 * 2 - 1, d, s0) ⟨by dsimp only; omega, by dsimp only; omega, hV, permIn_refl _ _ _⟩ (fun (_, _, _) => ⟨rfl, rfl⟩) ⟨⟨rfl, rfl, rfl, rfl, rfl, rfl, trivial⟩, ⟨rfl, trivial⟩, rfl, rfl⟩ ?_
 rintro ⟨i, d1, s1⟩ ⟨hi1, hi2, hV1, hp⟩
 dsimp only at hi1 hi2 hV1 hp
 have hs1 : d1.size = n := H.size hV1
 have hs0 : d.size = n := H.size hV
 refine need_intro (by decide) ?_
 refine nEq (x := (((b - a) / 4 : Nat) : Int)) (by rw [Int.tdiv_eq_ediv_of_nonneg (by omega), wrap64 (by omega) (by omega)]; omega) ?_
 refine nEq (x := (((b - a) / 4 * 2 : Nat) : Int)) (by rw [wrap64 (by omega) (by omega)]; omega) ?_
 refine nEq (x := ((a + (b - a) / 4 * 2 : Nat) : Int)) (by rw [wrap64 (by omega) (by omega)]; omega) ?_
 refine nEq (x := ((a + (b - a) / 4 * 2 + 1 : Nat) : Int)) (by rw [wrap64 (by omega) (by omega)]; omega) ?_
 refine ifd (fun hlx => ?_) (fun hlx => ?_)
 rotate_left
 ·exact ret_own _ _ (parts_set (hdom d1 hV1)) ⟨rfl, d1, hp, rfl, hV1⟩
 refine cOw (NextF_spec) fun v μ' h' hle' hap hR => ?_
 obtain ⟨s2, rfl, e1, rfl⟩ := hR
 obtain rfl := e1.symm
 refine nEq (x := ((P - 1 : Nat) : Int)) (by
  show ((P : Int) - 1) % 18446744073709551616 = _
  omega) ?_
 refine num_intro fun y hy => ?_
 have w_ := and_le (x := s2) (m := ((P - 1 : Nat) : Int)) (by omega) (by omega)
 obtain ⟨hy1, hy2⟩ := w_
 rw [← hy] at hy1 hy2
 have w_ := Int.eq_ofNat_of_zero_le hy1
 obtain ⟨o, rfl⟩ := w_
 clear hy
 refine nEq (x := (o : Int)) (wrap64 (by omega) (by omega)) ?_
 refine ifd (fun ho => ?_) (fun ho => ?_)
 ·refine nEq (x := ((o - (b - a) : Nat) : Int)) (by rw [wrap64 (by omega) (by omega)]; omega) ?_
  have ho2 : o - (b - a) < b - a := by omega
  generalize o - (b - a) = q at *
  refine nEq (x := ((a + q : Nat) : Int)) (by rw [wrap64 (by omega) (by omega)]; omega) ?_
  refine cOw ((H2 s2).swap hle hV1 (i := i) (j := a + q) (by omega) (by omega)) fun v μ' h' hle' hap hR => ?_
  obtain ⟨rfl, e2, rfl⟩ := hR
  obtain rfl := e2.symm
  refine nEq (x := ((i + 1 : Nat) : Int)) (by rw [wrap64 (by omega) (by omega)]; omega) ?_
  exact ⟨(i + 1, swp d1 i (a + q), s2), ⟨by dsimp only; omega, by dsimp only; omega, H.sw hV1 (by omega) (by omega), permIn_trans _ _ _ _ _ hp (swp_permIn d1 a b i (a + q) (by omega) (by omega) (by omega) (by omega) (by omega))⟩, by dsimp only; omega, ⟨⟨rfl, rfl, rfl, rfl, rfl, rfl, trivial⟩, ⟨rfl, trivial⟩, rfl, rfl⟩⟩
 ·refine nEq (x := ((a + o : Nat) : Int)) (by rw [wrap64 (by omega) (by omega)]; omega) ?_
  refine cOw ((H2 s2).swap hle hV1 (i := i) (j := a + o) (by omega) (by omega)) fun v μ' h' hle' hap hR => ?_
  obtain ⟨rfl, e2, rfl⟩ := hR
  obtain rfl := e2.symm
  refine nEq (x := ((i + 1 : Nat) : Int)) (by rw [wrap64 (by omega) (by omega)]; omega) ?_
  exact ⟨(i + 1, swp d1 i (a + o), s2), ⟨by dsimp only; omega, by dsimp only; omega, H.sw hV1 (by omega) (by omega), permIn_trans _ _ _ _ _ hp (swp_permIn d1 a b i (a + o) (by omega) (by omega) (by omega) (by omega) (by omega))⟩, by dsimp only; omega, ⟨⟨rfl, rfl, rfl, rfl, rfl, rfl, trivial⟩, ⟨rfl, trivial⟩, rfl, rfl⟩⟩
end
end Go.Vx
namespace Go.Vx
open Go.Proofs Classical
open Go.Sort
section
variable {α : Type} [Inhabited α] {lf sf : FuncId} {lb sb : List Value} {n : Nat} {lt : α → α → Bool} {μ0 : Mem} {J : Array α → Mem} {V : Array α → Prop}
set_option maxHeartbeats 16000000 in
theorem pdqsortF_spec (H : SortBy lf sf lb sb n lt μ0 J V) (hO : SWO lt) : ∀ (m : Nat) (a b limit : Nat) (d : Array α) (μ : Mem), b - a < m → a ≤ b → b ≤ n → V d → μ0.Le μ → limit ≤ 64 → Below lt a b d →
  SpecH Try.prog 121 [fdata lf sf lb sb, .int .i64 a, .int .i64 b, .int .i64 limit] μ (J d) fun v _μ' h' => v = .tuple #[] ∧ ∃ d', PermIn a b d d' ∧ SortedIn lt a b d' ∧ h' = J d' ∧ V d' := by
 intro m
 induction m with
 | zero => intro a b limit d μ h; omega
 | succ m ih =>
 intro a0 b0 limit0 d0 μ hm hab0 hb0 hV0 hle0 hl0 hB0
 have hn := H.max
 refine SpecH.mk [] Try.func121 (by kernel_rfl) ?_
 intro r1
 refine lIn (fun p : Nat × Nat × Nat × Bool × Bool × Array α × Mem => p.1 ≤ p.2.1 ∧ p.2.1 ≤ n ∧ p.2.1 - p.1 ≤ b0 - a0 ∧ p.2.2.1 ≤ 64 ∧ V p.2.2.2.2.2.1 ∧ Below lt p.1 p.2.1 p.2.2.2.2.2.1 ∧ μ0.Le p.2.2.2.2.2.2 ∧ ∀ R, PermIn p.1 p.2.1 p.2.2.2.2.2.1 R → SortedIn lt p.1 p.2.1 R → PermIn a0 b0 d0 R ∧ SortedIn lt a0 b0 R)
  (fun (a, b, limit, wb, wp, d, μ') => ⟨[(1, .val (.int .i64 a)), (2, .val (.int .i64 b)), (3, .val (.int .i64 limit)), (4, .loc 0 r1 0), (8, .val (.bool wb)), (9, .val (.bool wp))], fblk r1 lf sf lb sb, 1, μ', J d⟩) (fun p => p.2.1 - p.1)
  (a0, b0, limit0, true, true, d0, μ) ⟨hab0, hb0, Nat.le_refl _, hl0, hV0, hB0, hle0, fun R h1 h2 => ⟨h1, h2⟩⟩ (fun (_, _, _, _, _, _, _) => ⟨rfl, rfl⟩) ⟨⟨rfl, rfl, rfl, rfl, rfl, rfl, trivial⟩, ⟨rfl, trivial⟩, rfl, rfl⟩ ?_
 rintro ⟨a, b, limit, wb, wp, d, μ1⟩ ⟨hab, hb, hlen, hlim, hs, hB, hle, hfin⟩
 dsimp only at hab hb hlen hlim hs hB hle hfin
 refine nEq (x := ((b - a : Nat) : Int)) (by rw [wrap64 (by omega) (by omega)]; omega) ?_
 refine ifd (fun h12 => ?_) (fun h12 => ?_)
 ·refine cOw (insertionSortF_spec H hle hs hab hb) fun v μ' h' hle' hap hR => ?_
  obtain ⟨rfl, e1, rfl, hV2⟩ := hR
  have hsz := H.size hs
  have q := insertionSort_holds (lt := lt) hO d a b hab (by omega)
  exact rPl ⟨rfl, _, (hfin _ q.1 q.2).1, (hfin _ q.1 q.2).2, rfl, hV2⟩
 refine ifd (fun hl => ?_) (fun hl => ?_)
 ·refine cOw (heapSortF_spec H hle hs (by omega) hb) fun v μ' h' hle' hap hR => ?_
  obtain ⟨rfl, e1, rfl, hV2⟩ := hR
  have hsz := H.size hs
  have q := heapSort_holds (lt := lt) hO d a b hab (by omega)
  exact rPl ⟨rfl, _, (hfin _ q.1 q.2).1, (hfin _ q.1 q.2).2, rfl, hV2⟩
 cases wb with
 | false =>
  refine iIn (fun _ => ?_) (fun h => nomatch h)
  refine cOw (breakPatternsF_spec H hle hs (by omega) hb) fun v μ2 h' hle' hap hR => ?_
  obtain ⟨rfl, d1, p1, rfl, hs1⟩ := hR
  have hsz := H.size hs
  replace hB := hB.perm (by omega) p1
  replace hfin := fun R h1 h2 => hfin R (permIn_trans _ _ _ _ _ p1 h1) h2
  replace hle := hle.trans hle'
  clear hs p1 hle' hsz
  refine nEq (x := ((limit - 1 : Nat) : Int)) (by rw [wrap64 (by omega) (by omega)]; omega) ?_
  refine cOw (choosePivotF_spec H hle hs1 (by omega) hb) fun v μ3 h' hle' hap hR => ?_
  obtain ⟨p, k, hp1, hp2, hk, rfl, rfl⟩ := hR
  replace hle := hle.trans hle'
  clear hle' hap
  refine ifd (fun hk2 => ?_) (fun hk2 => ?_)
  ·refine cOw (reverseRangeF_spec H hle hs1 (by omega) hab hb) fun v μ4 h' hle' hap hR => ?_
   obtain ⟨rfl, e1, rfl, hs2⟩ := hR
   obtain rfl := e1.symm
   clear hle' hap
   have hsz := H.size hs1
   have p2 := reverseRange_holds d1 a b hab (by omega)
   generalize reverseRange d1 a b = d2 at *
   replace hB := hB.perm (by omega) p2
   replace hfin := fun R h1 h2 => hfin R (permIn_trans _ _ _ _ _ p2 h1) h2
   clear p2 hsz
   refine nEq (x := ((b - 1 : Nat) : Int)) (by rw [wrap64 (by omega) (by omega)]; omega) ?_
   refine nEq (x := ((p - a : Nat) : Int)) (by rw [wrap64 (by omega) (by omega)]; omega) ?_
   refine nEq (x := (((b - 1) - (p - a) : Nat) : Int)) (by rw [wrap64 (by omega) (by omega)]; omega) ?_
   refine iIn (fun h => nomatch h) (fun _ => ?_)
   refine ifd (fun ha0 => ?_) (fun ha0 => ?_)
   ·refine nEq (x := ((a - 1 : Nat) : Int)) (by rw [wrap64 (by omega) (by omega)]; omega) ?_
    refine cOw (H.less hle hs2 (i := a - 1) (j := (b - 1) - (p - a)) (by omega) (by omega)) fun v μ' h' hle' hap hR => ?_
    obtain ⟨rfl, e2, rfl⟩ := hR
    obtain rfl := e2.symm
    clear hle' hap
    have hsz := H.size hs2
    refine iIn (fun hnl => ?_) (fun hnl => ?_)
    ·refine cOw (partitionEqualF_spec H (pivot := (b - 1) - (p - a)) hle hs2 (by omega) (by omega) hb) fun v μ6 h' hle' hap hR => ?_
     obtain ⟨rfl, e1, rfl, hs4⟩ := hR
     obtain rfl := e1.symm
     obtain ⟨mid, d4, hx⟩ : ∃ mid d4, partitionEqual lt d2 a b ((b - 1) - (p - a)) = (mid, d4) := ⟨_, _, rfl⟩
     rw [hx] at hs4 ⊢
     have q := round_eq hO (partitionEqual_holds lt) (by omega) (by omega) (by omega) (by omega) hB (by simpa using hnl) hx
     have qa := q.1
     exact ⟨(mid, b, limit - 1, false, wp, d4, _), ⟨q.2.1, hb, by dsimp only; omega, by dsimp only; omega, hs4, q.2.2.2.1, hle, fun R h1 h2 => hfin R (q.2.2.2.2 R h1 h2).1 (q.2.2.2.2 R h1 h2).2⟩, by dsimp only; omega, ⟨⟨rfl, rfl, rfl, rfl, rfl, rfl, trivial⟩, ⟨rfl, trivial⟩, rfl, rfl⟩⟩
    ·refine cOw (partitionF_spec H (pivot := (b - 1) - (p - a)) hle hs2 (by omega) (by omega) hb) fun v μ6 h' hle' hap hR => ?_
     obtain ⟨⟨ap, rfl⟩, e1, rfl, hs4⟩ := hR
     have hsz' := H.size hs2
     obtain rfl := e1.symm
     obtain ⟨mid, ap', d4, hx⟩ : ∃ mid ap' d4, partition lt d2 a b ((b - 1) - (p - a)) = (mid, ap', d4) := ⟨_, _, _, rfl⟩
     rw [hx] at hs4 ⊢
     have w_ := round_part hO (partition_holds lt) (by omega) (by omega) (by omega) hB hx
     obtain ⟨q1, q2, q3, q4, q5, q6, q7⟩ := w_
     refine nEq (x := ((mid - a : Nat) : Int)) (by rw [wrap64 (by omega) (by omega)]; omega) ?_
     refine nEq (x := ((b - mid : Nat) : Int)) (by rw [wrap64 (by omega) (by omega)]; omega) ?_
     refine need_intro (by decide) ?_
     refine nEq (x := (((b - a) / 8 : Nat) : Int)) (by rw [Int.tdiv_eq_ediv_of_nonneg (by omega), wrap64 (by omega) (by omega)]; omega) ?_
     refine ifd (fun hlt => ?_) (fun hlt => ?_)
     ·refine cOw (ih a mid (limit - 1) d4 _ (by omega) (by omega) (by omega) hs4 hle (by omega) q4) fun v μ7 h' hle7 hap hR => ?_
      obtain ⟨rfl, L, g1, g2, rfl, hs5⟩ := hR
      have w_ := q6 L g1 g2
      obtain ⟨g3, g4⟩ := w_
      refine nEq (x := ((mid + 1 : Nat) : Int)) (by rw [wrap64 (by omega) (by omega)]; omega) ?_
      exact ⟨(mid + 1, b, limit - 1, _, ap, L, μ7), ⟨by dsimp only; omega, hb, by dsimp only; omega, by dsimp only; omega, hs5, g3, hle.trans hle7, fun R h1 h2 => hfin R (g4 R h1 h2).1 (g4 R h1 h2).2⟩, by dsimp only; omega, ⟨⟨rfl, rfl, rfl, rfl, rfl, rfl, trivial⟩, ⟨rfl, trivial⟩, rfl, rfl⟩⟩
     ·refine nEq (x := ((mid + 1 : Nat) : Int)) (by rw [wrap64 (by omega) (by omega)]; omega) ?_
      refine cOw (ih (mid + 1) b (limit - 1) d4 _ (by omega) (by omega) (by omega) hs4 hle (by omega) q5) fun v μ7 h' hle7 hap hR => ?_
      obtain ⟨rfl, L, g1, g2, rfl, hs5⟩ := hR
      have w_ := q7 L g1 g2
      obtain ⟨g3, g4⟩ := w_
      exact ⟨(a, mid, limit - 1, _, ap, L, μ7), ⟨by dsimp only; omega, by dsimp only; omega, by dsimp only; omega, by dsimp only; omega, hs5, g3, hle.trans hle7, fun R h1 h2 => hfin R (g4 R h1 h2).1 (g4 R h1 h2).2⟩, by dsimp only; omega, ⟨⟨rfl, rfl, rfl, rfl, rfl, rfl, trivial⟩, ⟨rfl, trivial⟩, rfl, rfl⟩⟩
   ·refine cOw (partitionF_spec H (pivot := (b - 1) - (p - a)) hle hs2 (by omega) (by omega) hb) fun v μ6 h' hle' hap hR => ?_
    obtain ⟨⟨ap, rfl⟩, e1, rfl, hs4⟩ := hR
    have hsz' := H.size hs2
    obtain rfl := e1.symm
    obtain ⟨mid, ap', d4, hx⟩ : ∃ mid ap' d4, partition lt d2 a b ((b - 1) - (p - a)) = (mid, ap', d4) := ⟨_, _, _, rfl⟩
    rw [hx] at hs4 ⊢
    have w_ := round_part hO (partition_holds lt) (by omega) (by omega) (by omega) hB hx
    obtain ⟨q1, q2, q3, q4, q5, q6, q7⟩ := w_
    refine nEq (x := ((mid - a : Nat) : Int)) (by rw [wrap64 (by omega) (by omega)]; omega) ?_
    refine nEq (x := ((b - mid : Nat) : Int)) (by rw [wrap64 (by omega) (by omega)]; omega) ?_
    refine need_intro (by decide) ?_
    refine nEq (x := (((b - a) / 8 : Nat) : Int)) (by rw [Int.tdiv_eq_ediv_of_nonneg (by omega), wrap64 (by omega) (by omega)]; omega) ?_
    refine ifd (fun hlt => ?_) (fun hlt => ?_)
    ·refine cOw (ih a mid (limit - 1) d4 _ (by omega) (by omega) (by omega) hs4 hle (by omega) q4) fun v μ7 h' hle7 hap hR => ?_
     obtain ⟨rfl, L, g1, g2, rfl, hs5⟩ := hR
     have w_ := q6 L g1 g2
     obtain ⟨g3, g4⟩ := w_
     refine nEq (x := ((mid + 1 : Nat) : Int)) (by rw [wrap64 (by omega) (by omega)]; omega) ?_
     exact ⟨(mid + 1, b, limit - 1, _, ap, L, μ7), ⟨by dsimp only; omega, hb, by dsimp only; omega, by dsimp only; omega, hs5, g3, hle.trans hle7, fun R h1 h2 => hfin R (g4 R h1 h2).1 (g4 R h1 h2).2⟩, by dsimp only; omega, ⟨⟨rfl, rfl, rfl, rfl, rfl, rfl, trivial⟩, ⟨rfl, trivial⟩, rfl, rfl⟩⟩
    ·refine nEq (x := ((mid + 1 : Nat) : Int)) (by rw [wrap64 (by omega) (by omega)]; omega) ?_
     refine cOw (ih (mid + 1) b (limit - 1) d4 _ (by omega) (by omega) (by omega) hs4 hle (by omega) q5) fun v μ7 h' hle7 hap hR => ?_
     obtain ⟨rfl, L, g1, g2, rfl, hs5⟩ := hR
     have w_ := q7 L g1 g2
     obtain ⟨g3, g4⟩ := w_
     exact ⟨(a, mid, limit - 1, _, ap, L, μ7), ⟨by dsimp only; omega, by dsimp only; omega, by dsimp only; omega, by dsimp only; omega, hs5, g3, hle.trans hle7, fun R h1 h2 => hfin R (g4 R h1 h2).1 (g4 R h1 h2).2⟩, by dsimp only; omega, ⟨⟨rfl, rfl, rfl, rfl, rfl, rfl, trivial⟩, ⟨rfl, trivial⟩, rfl, rfl⟩⟩
  ·refine iIn (fun h => nomatch h) (fun _ => ?_)
   refine ifd (fun ha0 => ?_) (fun ha0 => ?_)
   ·refine nEq (x := ((a - 1 : Nat) : Int)) (by rw [wrap64 (by omega) (by omega)]; omega) ?_
    refine cOw (H.less hle hs1 (i := a - 1) (j := p) (by omega) (by omega)) fun v μ' h' hle' hap hR => ?_
    obtain ⟨rfl, e2, rfl⟩ := hR
    obtain rfl := e2.symm
    clear hle' hap
    have hsz := H.size hs1
    refine iIn (fun hnl => ?_) (fun hnl => ?_)
    ·refine cOw (partitionEqualF_spec H (pivot := p) hle hs1 (by omega) (by omega) hb) fun v μ6 h' hle' hap hR => ?_
     obtain ⟨rfl, e1, rfl, hs4⟩ := hR
     obtain rfl := e1.symm
     obtain ⟨mid, d4, hx⟩ : ∃ mid d4, partitionEqual lt d1 a b (p) = (mid, d4) := ⟨_, _, rfl⟩
     rw [hx] at hs4 ⊢
     have q := round_eq hO (partitionEqual_holds lt) (by omega) (by omega) (by omega) (by omega) hB (by simpa using hnl) hx
     have qa := q.1
     exact ⟨(mid, b, limit - 1, false, wp, d4, _), ⟨q.2.1, hb, by dsimp only; omega, by dsimp only; omega, hs4, q.2.2.2.1, hle, fun R h1 h2 => hfin R (q.2.2.2.2 R h1 h2).1 (q.2.2.2.2 R h1 h2).2⟩, by dsimp only; omega, ⟨⟨rfl, rfl, rfl, rfl, rfl, rfl, trivial⟩, ⟨rfl, trivial⟩, rfl, rfl⟩⟩
    ·refine cOw (partitionF_spec H (pivot := p) hle hs1 (by omega) (by omega) hb) fun v μ6 h' hle' hap hR => ?_
     obtain ⟨⟨ap, rfl⟩, e1, rfl, hs4⟩ := hR
     have hsz' := H.size hs1
     obtain rfl := e1.symm
     obtain ⟨mid, ap', d4, hx⟩ : ∃ mid ap' d4, partition lt d1 a b (p) = (mid, ap', d4) := ⟨_, _, _, rfl⟩
     rw [hx] at hs4 ⊢
     have w_ := round_part hO (partition_holds lt) (by omega) (by omega) (by omega) hB hx
     obtain ⟨q1, q2, q3, q4, q5, q6, q7⟩ := w_
     refine nEq (x := ((mid - a : Nat) : Int)) (by rw [wrap64 (by omega) (by omega)]; omega) ?_
     refine nEq (x := ((b - mid : Nat) : Int)) (by rw [wrap64 (by omega) (by omega)]; omega) ?_
     refine need_intro (by decide) ?_
     refine nEq (x := (((b - a) / 8 : Nat) : Int)) (by rw [Int.tdiv_eq_ediv_of_nonneg (by omega), wrap64 (by omega) (by omega)]; omega) ?_
     refine ifd (fun hlt => ?_) (fun hlt => ?_)
     ·refine cOw (ih a mid (limit - 1) d4 _ (by omega) (by omega) (by omega) hs4 hle (by omega) q4) fun v μ7 h' hle7 hap hR => ?_
      obtain ⟨rfl, L, g1, g2, rfl, hs5⟩ := hR
      have w_ := q6 L g1 g2
      obtain ⟨g3, g4⟩ := w_
      refine nEq (x := ((mid + 1 : Nat) : Int)) (by rw [wrap64 (by omega) (by omega)]; omega) ?_
      exact ⟨(mid + 1, b, limit - 1, _, ap, L, μ7), ⟨by dsimp only; omega, hb, by dsimp only; omega, by dsimp only; omega, hs5, g3, hle.trans hle7, fun R h1 h2 => hfin R (g4 R h1 h2).1 (g4 R h1 h2).2⟩, by dsimp only; omega, ⟨⟨rfl, rfl, rfl, rfl, rfl, rfl, trivial⟩, ⟨rfl, trivial⟩, rfl, rfl⟩⟩
     ·refine nEq (x := ((mid + 1 : Nat) : Int)) (by rw [wrap64 (by omega) (by omega)]; omega) ?_
      refine cOw (ih (mid + 1) b (limit - 1) d4 _ (by omega) (by omega) (by omega) hs4 hle (by omega) q5) fun v μ7 h' hle7 hap hR => ?_
      obtain ⟨rfl, L, g1, g2, rfl, hs5⟩ := hR
      have w_ := q7 L g1 g2
      obtain ⟨g3, g4⟩ := w_
      exact ⟨(a, mid, limit - 1, _, ap, L, μ7), ⟨by dsimp only; omega, by dsimp only; omega, by dsimp only; omega, by dsimp only; omega, hs5, g3, hle.trans hle7, fun R h1 h2 => hfin R (g4 R h1 h2).1 (g4 R h1 h2).2⟩, by dsimp only; omega, ⟨⟨rfl, rfl, rfl, rfl, rfl, rfl, trivial⟩, ⟨rfl, trivial⟩, rfl, rfl⟩⟩
   ·refine cOw (partitionF_spec H (pivot := p) hle hs1 (by omega) (by omega) hb) fun v μ6 h' hle' hap hR => ?_
    obtain ⟨⟨ap, rfl⟩, e1, rfl, hs4⟩ := hR
    have hsz' := H.size hs1
    obtain rfl := e1.symm
    obtain ⟨mid, ap', d4, hx⟩ : ∃ mid ap' d4, partition lt d1 a b (p) = (mid, ap', d4) := ⟨_, _, _, rfl⟩
    rw [hx] at hs4 ⊢
    have w_ := round_part hO (partition_holds lt) (by omega) (by omega) (by omega) hB hx
    obtain ⟨q1, q2, q3, q4, q5, q6, q7⟩ := w_
    refine nEq (x := ((mid - a : Nat) : Int)) (by rw [wrap64 (by omega) (by omega)]; omega) ?_
    refine nEq (x := ((b - mid : Nat) : Int)) (by rw [wrap64 (by omega) (by omega)]; omega) ?_
    refine need_intro (by decide) ?_
    refine nEq (x := (((b - a) / 8 : Nat) : Int)) (by rw [Int.tdiv_eq_ediv_of_nonneg (by omega), wrap64 (by omega) (by omega)]; omega) ?_
    refine ifd (fun hlt => ?_) (fun hlt => ?_)
    ·refine cOw (ih a mid (limit - 1) d4 _ (by omega) (by omega) (by omega) hs4 hle (by omega) q4) fun v μ7 h' hle7 hap hR => ?_
     obtain ⟨rfl, L, g1, g2, rfl, hs5⟩ := hR
     have w_ := q6 L g1 g2
     obtain ⟨g3, g4⟩ := w_
     refine nEq (x := ((mid + 1 : Nat) : Int)) (by rw [wrap64 (by omega) (by omega)]; omega) ?_
     exact ⟨(mid + 1, b, limit - 1, _, ap, L, μ7), ⟨by dsimp only; omega, hb, by dsimp only; omega, by dsimp only; omega, hs5, g3, hle.trans hle7, fun R h1 h2 => hfin R (g4 R h1 h2).1 (g4 R h1 h2).2⟩, by dsimp only; omega, ⟨⟨rfl, rfl, rfl, rfl, rfl, rfl, trivial⟩, ⟨rfl, trivial⟩, rfl, rfl⟩⟩
    ·refine nEq (x := ((mid + 1 : Nat) : Int)) (by rw [wrap64 (by omega) (by omega)]; omega) ?_
     refine cOw (ih (mid + 1) b (limit - 1) d4 _ (by omega) (by omega) (by omega) hs4 hle (by omega) q5) fun v μ7 h' hle7 hap hR => ?_
     obtain ⟨rfl, L, g1, g2, rfl, hs5⟩ := hR
     have w_ := q7 L g1 g2
     obtain ⟨g3, g4⟩ := w_
     exact ⟨(a, mid, limit - 1, _, ap, L, μ7), ⟨by dsimp only; omega, by dsimp only; omega, by dsimp only; omega, by dsimp only; omega, hs5, g3, hle.trans hle7, fun R h1 h2 => hfin R (g4 R h1 h2).1 (g4 R h1 h2).2⟩, by dsimp only; omega, ⟨⟨rfl, rfl, rfl, rfl, rfl, rfl, trivial⟩, ⟨rfl, trivial⟩, rfl, rfl⟩⟩
 | true =>
  refine iIn (fun h => nomatch h) (fun _ => ?_)
  have hs1 := hs
  refine cOw (choosePivotF_spec H hle hs1 (by omega) hb) fun v μ3 h' hle' hap hR => ?_
  obtain ⟨p, k, hp1, hp2, hk, rfl, rfl⟩ := hR
  replace hle := hle.trans hle'
  clear hle' hap
  refine ifd (fun hk2 => ?_) (fun hk2 => ?_)
  ·refine cOw (reverseRangeF_spec H hle hs1 (by omega) hab hb) fun v μ4 h' hle' hap hR => ?_
   obtain ⟨rfl, e1, rfl, hs2⟩ := hR
   obtain rfl := e1.symm
   clear hle' hap
   have hsz := H.size hs1
   have p2 := reverseRange_holds d a b hab (by omega)
   generalize reverseRange d a b = d2 at *
   replace hB := hB.perm (by omega) p2
   replace hfin := fun R h1 h2 => hfin R (permIn_trans _ _ _ _ _ p2 h1) h2
   clear p2 hsz
   refine nEq (x := ((b - 1 : Nat) : Int)) (by rw [wrap64 (by omega) (by omega)]; omega) ?_
   refine nEq (x := ((p - a : Nat) : Int)) (by rw [wrap64 (by omega) (by omega)]; omega) ?_
   refine nEq (x := (((b - 1) - (p - a) : Nat) : Int)) (by rw [wrap64 (by omega) (by omega)]; omega) ?_
   refine iIn (fun _ => ?_) (fun h => nomatch h)
   refine iIn (fun hwp => ?_) (fun hwp => ?_)
   ·refine ifd (fun _ => ?_) (fun h => absurd rfl h)
    refine cOw (partialInsertionSortF_spec H hle hs2 (by omega) hb) fun v μ5 h' hle' hap hR => ?_
    obtain ⟨rfl, e1, rfl, hs3⟩ := hR
    obtain rfl := e1.symm
    clear hle' hap
    have hsz := H.size hs2
    have q := partialInsertionSort_holds (lt := lt) hO d2 a b (by omega) (by omega) hB
    refine iIn (fun hok => ?_) (fun hok => ?_)
    ·exact rPl ⟨rfl, _, (hfin _ q.1 (q.2 hok)).1, (hfin _ q.1 (q.2 hok)).2, rfl, hs3⟩
    ·have q1 := q.1
     clear q hok
     generalize (partialInsertionSort lt d2 a b).1 = d3 at *
     replace hB := hB.perm (by omega) q1
     replace hfin := fun R h1 h2 => hfin R (permIn_trans _ _ _ _ _ q1 h1) h2
     clear q1 hsz
     refine ifd (fun ha0 => ?_) (fun ha0 => ?_)
     ·refine nEq (x := ((a - 1 : Nat) : Int)) (by rw [wrap64 (by omega) (by omega)]; omega) ?_
      refine cOw (H.less hle hs3 (i := a - 1) (j := (b - 1) - (p - a)) (by omega) (by omega)) fun v μ' h' hle' hap hR => ?_
      obtain ⟨rfl, e2, rfl⟩ := hR
      obtain rfl := e2.symm
      clear hle' hap
      have hsz := H.size hs3
      refine iIn (fun hnl => ?_) (fun hnl => ?_)
      ·refine cOw (partitionEqualF_spec H (pivot := (b - 1) - (p - a)) hle hs3 (by omega) (by omega) hb) fun v μ6 h' hle' hap hR => ?_
       obtain ⟨rfl, e1, rfl, hs4⟩ := hR
       obtain rfl := e1.symm
       obtain ⟨mid, d4, hx⟩ : ∃ mid d4, partitionEqual lt d3 a b ((b - 1) - (p - a)) = (mid, d4) := ⟨_, _, rfl⟩
       rw [hx] at hs4 ⊢
       have q := round_eq hO (partitionEqual_holds lt) (by omega) (by omega) (by omega) (by omega) hB (by simpa using hnl) hx
       have qa := q.1
       exact ⟨(mid, b, limit, true, wp, d4, _), ⟨q.2.1, hb, by dsimp only; omega, by dsimp only; omega, hs4, q.2.2.2.1, hle, fun R h1 h2 => hfin R (q.2.2.2.2 R h1 h2).1 (q.2.2.2.2 R h1 h2).2⟩, by dsimp only; omega, ⟨⟨rfl, rfl, rfl, rfl, rfl, rfl, trivial⟩, ⟨rfl, trivial⟩, rfl, rfl⟩⟩
      ·refine cOw (partitionF_spec H (pivot := (b - 1) - (p - a)) hle hs3 (by omega) (by omega) hb) fun v μ6 h' hle' hap hR => ?_
       obtain ⟨⟨ap, rfl⟩, e1, rfl, hs4⟩ := hR
       have hsz' := H.size hs3
       obtain rfl := e1.symm
       obtain ⟨mid, ap', d4, hx⟩ : ∃ mid ap' d4, partition lt d3 a b ((b - 1) - (p - a)) = (mid, ap', d4) := ⟨_, _, _, rfl⟩
       rw [hx] at hs4 ⊢
       have w_ := round_part hO (partition_holds lt) (by omega) (by omega) (by omega) hB hx
       obtain ⟨q1, q2, q3, q4, q5, q6, q7⟩ := w_
       refine nEq (x := ((mid - a : Nat) : Int)) (by rw [wrap64 (by omega) (by omega)]; omega) ?_
       refine nEq (x := ((b - mid : Nat) : Int)) (by rw [wrap64 (by omega) (by omega)]; omega) ?_
       refine need_intro (by decide) ?_
       refine nEq (x := (((b - a) / 8 : Nat) : Int)) (by rw [Int.tdiv_eq_ediv_of_nonneg (by omega), wrap64 (by omega) (by omega)]; omega) ?_
       refine ifd (fun hlt => ?_) (fun hlt => ?_)
       ·refine cOw (ih a mid (limit) d4 _ (by omega) (by omega) (by omega) hs4 hle (by omega) q4) fun v μ7 h' hle7 hap hR => ?_
        obtain ⟨rfl, L, g1, g2, rfl, hs5⟩ := hR
        have w_ := q6 L g1 g2
        obtain ⟨g3, g4⟩ := w_
        refine nEq (x := ((mid + 1 : Nat) : Int)) (by rw [wrap64 (by omega) (by omega)]; omega) ?_
        exact ⟨(mid + 1, b, limit, _, ap, L, μ7), ⟨by dsimp only; omega, hb, by dsimp only; omega, by dsimp only; omega, hs5, g3, hle.trans hle7, fun R h1 h2 => hfin R (g4 R h1 h2).1 (g4 R h1 h2).2⟩, by dsimp only; omega, ⟨⟨rfl, rfl, rfl, rfl, rfl, rfl, trivial⟩, ⟨rfl, trivial⟩, rfl, rfl⟩⟩
       ·refine nEq (x := ((mid + 1 : Nat) : Int)) (by rw [wrap64 (by omega) (by omega)]; omega) ?_
        refine cOw (ih (mid + 1) b (limit) d4 _ (by omega) (by omega) (by omega) hs4 hle (by omega) q5) fun v μ7 h' hle7 hap hR => ?_
        obtain ⟨rfl, L, g1, g2, rfl, hs5⟩ := hR
        have w_ := q7 L g1 g2
        obtain ⟨g3, g4⟩ := w_
        exact ⟨(a, mid, limit, _, ap, L, μ7), ⟨by dsimp only; omega, by dsimp only; omega, by dsimp only; omega, by dsimp only; omega, hs5, g3, hle.trans hle7, fun R h1 h2 => hfin R (g4 R h1 h2).1 (g4 R h1 h2).2⟩, by dsimp only; omega, ⟨⟨rfl, rfl, rfl, rfl, rfl, rfl, trivial⟩, ⟨rfl, trivial⟩, rfl, rfl⟩⟩
     ·refine cOw (partitionF_spec H (pivot := (b - 1) - (p - a)) hle hs3 (by omega) (by omega) hb) fun v μ6 h' hle' hap hR => ?_
      obtain ⟨⟨ap, rfl⟩, e1, rfl, hs4⟩ := hR
      have hsz' := H.size hs3
      obtain rfl := e1.symm
      obtain ⟨mid, ap', d4, hx⟩ : ∃ mid ap' d4, partition lt d3 a b ((b - 1) - (p - a)) = (mid, ap', d4) := ⟨_, _, _, rfl⟩
      rw [hx] at hs4 ⊢
      have w_ := round_part hO (partition_holds lt) (by omega) (by omega) (by omega) hB hx
      obtain ⟨q1, q2, q3, q4, q5, q6, q7⟩ := w_
      refine nEq (x := ((mid - a : Nat) : Int)) (by rw [wrap64 (by omega) (by omega)]; omega) ?_
      refine nEq (x := ((b - mid : Nat) : Int)) (by rw [wrap64 (by omega) (by omega)]; omega) ?_
      refine need_intro (by decide) ?_
      refine nEq (x := (((b - a) / 8 : Nat) : Int)) (by rw [Int.tdiv_eq_ediv_of_nonneg (by omega), wrap64 (by omega) (by omega)]; omega) ?_
      refine ifd (fun hlt => ?_) (fun hlt => ?_)
      ·refine cOw (ih a mid (limit) d4 _ (by omega) (by omega) (by omega) hs4 hle (by omega) q4) fun v μ7 h' hle7 hap hR => ?_
       obtain ⟨rfl, L, g1, g2, rfl, hs5⟩ := hR
       have w_ := q6 L g1 g2
       obtain ⟨g3, g4⟩ := w_
       refine nEq (x := ((mid + 1 : Nat) : Int)) (by rw [wrap64 (by omega) (by omega)]; omega) ?_
       exact ⟨(mid + 1, b, limit, _, ap, L, μ7), ⟨by dsimp only; omega, hb, by dsimp only; omega, by dsimp only; omega, hs5, g3, hle.trans hle7, fun R h1 h2 => hfin R (g4 R h1 h2).1 (g4 R h1 h2).2⟩, by dsimp only; omega, ⟨⟨rfl, rfl, rfl, rfl, rfl, rfl, trivial⟩, ⟨rfl, trivial⟩, rfl, rfl⟩⟩
      ·refine nEq (x := ((mid + 1 : Nat) : Int)) (by rw [wrap64 (by omega) (by omega)]; omega) ?_
       refine cOw (ih (mid + 1) b (limit) d4 _ (by omega) (by omega) (by omega) hs4 hle (by omega) q5) fun v μ7 h' hle7 hap hR => ?_
       obtain ⟨rfl, L, g1, g2, rfl, hs5⟩ := hR
       have w_ := q7 L g1 g2
       obtain ⟨g3, g4⟩ := w_
       exact ⟨(a, mid, limit, _, ap, L, μ7), ⟨by dsimp only; omega, by dsimp only; omega, by dsimp only; omega, by dsimp only; omega, hs5, g3, hle.trans hle7, fun R h1 h2 => hfin R (g4 R h1 h2).1 (g4 R h1 h2).2⟩, by dsimp only; omega, ⟨⟨rfl, rfl, rfl, rfl, rfl, rfl, trivial⟩, ⟨rfl, trivial⟩, rfl, rfl⟩⟩
   ·refine ifd (fun ha0 => ?_) (fun ha0 => ?_)
    ·refine nEq (x := ((a - 1 : Nat) : Int)) (by rw [wrap64 (by omega) (by omega)]; omega) ?_
     refine cOw (H.less hle hs2 (i := a - 1) (j := (b - 1) - (p - a)) (by omega) (by omega)) fun v μ' h' hle' hap hR => ?_
     obtain ⟨rfl, e2, rfl⟩ := hR
     obtain rfl := e2.symm
     clear hle' hap
     have hsz := H.size hs2
     refine iIn (fun hnl => ?_) (fun hnl => ?_)
     ·refine cOw (partitionEqualF_spec H (pivot := (b - 1) - (p - a)) hle hs2 (by omega) (by omega) hb) fun v μ6 h' hle' hap hR => ?_
      obtain ⟨rfl, e1, rfl, hs4⟩ := hR
      obtain rfl := e1.symm
      obtain ⟨mid, d4, hx⟩ : ∃ mid d4, partitionEqual lt d2 a b ((b - 1) - (p - a)) = (mid, d4) := ⟨_, _, rfl⟩
      rw [hx] at hs4 ⊢
      have q := round_eq hO (partitionEqual_holds lt) (by omega) (by omega) (by omega) (by omega) hB (by simpa using hnl) hx
      have qa := q.1
      exact ⟨(mid, b, limit, true, wp, d4, _), ⟨q.2.1, hb, by dsimp only; omega, by dsimp only; omega, hs4, q.2.2.2.1, hle, fun R h1 h2 => hfin R (q.2.2.2.2 R h1 h2).1 (q.2.2.2.2 R h1 h2).2⟩, by dsimp only; omega, ⟨⟨rfl, rfl, rfl, rfl, rfl, rfl, trivial⟩, ⟨rfl, trivial⟩, rfl, rfl⟩⟩
     ·refine cOw (partitionF_spec H (pivot := (b - 1) - (p - a)) hle hs2 (by omega) (by omega) hb) fun v μ6 h' hle' hap hR => ?_
      obtain ⟨⟨ap, rfl⟩, e1, rfl, hs4⟩ := hR
      have hsz' := H.size hs2
      obtain rfl := e1.symm
      obtain ⟨mid, ap', d4, hx⟩ : ∃ mid ap' d4, partition lt d2 a b ((b - 1) - (p - a)) = (mid, ap', d4) := ⟨_, _, _, rfl⟩
      rw [hx] at hs4 ⊢
      have w_ := round_part hO (partition_holds lt) (by omega) (by omega) (by omega) hB hx
      obtain ⟨q1, q2, q3, q4, q5, q6, q7⟩ := w_
      refine nEq (x := ((mid - a : Nat) : Int)) (by rw [wrap64 (by omega) (by omega)]; omega) ?_
      refine nEq (x := ((b - mid : Nat) : Int)) (by rw [wrap64 (by omega) (by omega)]; omega) ?_
      refine need_intro (by decide) ?_
      refine nEq (x := (((b - a) / 8 : Nat) : Int)) (by rw [Int.tdiv_eq_ediv_of_nonneg (by omega), wrap64 (by omega) (by omega)]; omega) ?_
      refine ifd (fun hlt => ?_) (fun hlt => ?_)
      ·refine cOw (ih a mid (limit) d4 _ (by omega) (by omega) (by omega) hs4 hle (by omega) q4) fun v μ7 h' hle7 hap hR => ?_
       obtain ⟨rfl, L, g1, g2, rfl, hs5⟩ := hR
       have w_ := q6 L g1 g2
       obtain ⟨g3, g4⟩ := w_
       refine nEq (x := ((mid + 1 : Nat) : Int)) (by rw [wrap64 (by omega) (by omega)]; omega) ?_
       exact ⟨(mid + 1, b, limit, _, ap, L, μ7), ⟨by dsimp only; omega, hb, by dsimp only; omega, by dsimp only; omega, hs5, g3, hle.trans hle7, fun R h1 h2 => hfin R (g4 R h1 h2).1 (g4 R h1 h2).2⟩, by dsimp only; omega, ⟨⟨rfl, rfl, rfl, rfl, rfl, rfl, trivial⟩, ⟨rfl, trivial⟩, rfl, rfl⟩⟩
      ·refine nEq (x := ((mid + 1 : Nat) : Int)) (by rw [wrap64 (by omega) (by omega)]; omega) ?_
       refine cOw (ih (mid + 1) b (limit) d4 _ (by omega) (by omega) (by omega) hs4 hle (by omega) q5) fun v μ7 h' hle7 hap hR => ?_
       obtain ⟨rfl, L, g1, g2, rfl, hs5⟩ := hR
       have w_ := q7 L g1 g2
       obtain ⟨g3, g4⟩ := w_
       exact ⟨(a, mid, limit, _, ap, L, μ7), ⟨by dsimp only; omega, by dsimp only; omega, by dsimp only; omega, by dsimp only; omega, hs5, g3, hle.trans hle7, fun R h1 h2 => hfin R (g4 R h1 h2).1 (g4 R h1 h2).2⟩, by dsimp only; omega, ⟨⟨rfl, rfl, rfl, rfl, rfl, rfl, trivial⟩, ⟨rfl, trivial⟩, rfl, rfl⟩⟩
    ·refine cOw (partitionF_spec H (pivot := (b - 1) - (p - a)) hle hs2 (by omega) (by omega) hb) fun v μ6 h' hle' hap hR => ?_
     obtain ⟨⟨ap, rfl⟩, e1, rfl, hs4⟩ := hR
     have hsz' := H.size hs2
     obtain rfl := e1.symm
     obtain ⟨mid, ap', d4, hx⟩ : ∃ mid ap' d4, partition lt d2 a b ((b - 1) - (p - a)) = (mid, ap', d4) := ⟨_, _, _, rfl⟩
     rw [hx] at hs4 ⊢
     have w_ := round_part hO (partition_holds lt) (by omega) (by omega) (by omega) hB hx
     obtain ⟨q1, q2, q3, q4, q5, q6, q7⟩ := w_
     refine nEq (x := ((mid - a : Nat) : Int)) (by rw [wrap64 (by omega) (by omega)]; omega) ?_
     refine nEq (x := ((b - mid : Nat) : Int)) (by rw [wrap64 (by omega) (by omega)]; omega) ?_
     refine need_intro (by decide) ?_
     refine nEq (x := (((b - a) / 8 : Nat) : Int)) (by rw [Int.tdiv_eq_ediv_of_nonneg (by omega), wrap64 (by omega) (by omega)]; omega) ?_
     refine ifd (fun hlt => ?_) (fun hlt => ?_)
     ·refine cOw (ih a mid (limit) d4 _ (by omega) (by omega) (by omega) hs4 hle (by omega) q4) fun v μ7 h' hle7 hap hR => ?_
      obtain ⟨rfl, L, g1, g2, rfl, hs5⟩ := hR
      have w_ := q6 L g1 g2
      obtain ⟨g3, g4⟩ := w_
      refine nEq (x := ((mid + 1 : Nat) : Int)) (by rw [wrap64 (by omega) (by omega)]; omega) ?_
      exact ⟨(mid + 1, b, limit, _, ap, L, μ7), ⟨by dsimp only; omega, hb, by dsimp only; omega, by dsimp only; omega, hs5, g3, hle.trans hle7, fun R h1 h2 => hfin R (g4 R h1 h2).1 (g4 R h1 h2).2⟩, by dsimp only; omega, ⟨⟨rfl, rfl, rfl, rfl, rfl, rfl, trivial⟩, ⟨rfl, trivial⟩, rfl, rfl⟩⟩
     ·refine nEq (x := ((mid + 1 : Nat) : Int)) (by rw [wrap64 (by omega) (by omega)]; omega) ?_
      refine cOw (ih (mid + 1) b (limit) d4 _ (by omega) (by omega) (by omega) hs4 hle (by omega) q5) fun v μ7 h' hle7 hap hR => ?_
      obtain ⟨rfl, L, g1, g2, rfl, hs5⟩ := hR
      have w_ := q7 L g1 g2
      obtain ⟨g3, g4⟩ := w_
      exact ⟨(a, mid, limit, _, ap, L, μ7), ⟨by dsimp only; omega, by dsimp only; omega, by dsimp only; omega, by dsimp only; omega, hs5, g3, hle.trans hle7, fun R h1 h2 => hfin R (g4 R h1 h2).1 (g4 R h1 h2).2⟩, by dsimp only; omega, ⟨⟨rfl, rfl, rfl, rfl, rfl, rfl, trivial⟩, ⟨rfl, trivial⟩, rfl, rfl⟩⟩
  ·refine iIn (fun _ => ?_) (fun h => nomatch h)
   refine iIn (fun hwp => ?_) (fun hwp => ?_)
   ·refine ifd (fun hk1 => ?_) (fun hk1 => ?_)
    ·refine cOw (partialInsertionSortF_spec H hle hs1 (by omega) hb) fun v μ5 h' hle' hap hR => ?_
     obtain ⟨rfl, e1, rfl, hs3⟩ := hR
     obtain rfl := e1.symm
     clear hle' hap
     have hsz := H.size hs1
     have q := partialInsertionSort_holds (lt := lt) hO d a b (by omega) (by omega) hB
     refine iIn (fun hok => ?_) (fun hok => ?_)
     ·exact rPl ⟨rfl, _, (hfin _ q.1 (q.2 hok)).1, (hfin _ q.1 (q.2 hok)).2, rfl, hs3⟩
     ·have q1 := q.1
      clear q hok
      generalize (partialInsertionSort lt d a b).1 = d3 at *
      replace hB := hB.perm (by omega) q1
      replace hfin := fun R h1 h2 => hfin R (permIn_trans _ _ _ _ _ q1 h1) h2
      clear q1 hsz
      refine ifd (fun ha0 => ?_) (fun ha0 => ?_)
      ·refine nEq (x := ((a - 1 : Nat) : Int)) (by rw [wrap64 (by omega) (by omega)]; omega) ?_
       refine cOw (H.less hle hs3 (i := a - 1) (j := p) (by omega) (by omega)) fun v μ' h' hle' hap hR => ?_
       obtain ⟨rfl, e2, rfl⟩ := hR
       obtain rfl := e2.symm
       clear hle' hap
       have hsz := H.size hs3
       refine iIn (fun hnl => ?_) (fun hnl => ?_)
       ·refine cOw (partitionEqualF_spec H (pivot := p) hle hs3 (by omega) (by omega) hb) fun v μ6 h' hle' hap hR => ?_
        obtain ⟨rfl, e1, rfl, hs4⟩ := hR
        obtain rfl := e1.symm
        obtain ⟨mid, d4, hx⟩ : ∃ mid d4, partitionEqual lt d3 a b (p) = (mid, d4) := ⟨_, _, rfl⟩
        rw [hx] at hs4 ⊢
        have q := round_eq hO (partitionEqual_holds lt) (by omega) (by omega) (by omega) (by omega) hB (by simpa using hnl) hx
        have qa := q.1
        exact ⟨(mid, b, limit, true, wp, d4, _), ⟨q.2.1, hb, by dsimp only; omega, by dsimp only; omega, hs4, q.2.2.2.1, hle, fun R h1 h2 => hfin R (q.2.2.2.2 R h1 h2).1 (q.2.2.2.2 R h1 h2).2⟩, by dsimp only; omega, ⟨⟨rfl, rfl, rfl, rfl, rfl, rfl, trivial⟩, ⟨rfl, trivial⟩, rfl, rfl⟩⟩
       ·refine cOw (partitionF_spec H (pivot := p) hle hs3 (by omega) (by omega) hb) fun v μ6 h' hle' hap hR => ?_
        obtain ⟨⟨ap, rfl⟩, e1, rfl, hs4⟩ := hR
        have hsz' := H.size hs3
        obtain rfl := e1.symm
        obtain ⟨mid, ap', d4, hx⟩ : ∃ mid ap' d4, partition lt d3 a b (p) = (mid, ap', d4) := ⟨_, _, _, rfl⟩
        rw [hx] at hs4 ⊢
        have w_ := round_part hO (partition_holds lt) (by omega) (by omega) (by omega) hB hx
        obtain ⟨q1, q2, q3, q4, q5, q6, q7⟩ := w_
        refine nEq (x := ((mid - a : Nat) : Int)) (by rw [wrap64 (by omega) (by omega)]; omega) ?_
        refine nEq (x := ((b - mid : Nat) : Int)) (by rw [wrap64 (by omega) (by omega)]; omega) ?_
        refine need_intro (by decide) ?_
        refine nEq (x := (((b - a) / 8 : Nat) : Int)) (by rw [Int.tdiv_eq_ediv_of_nonneg (by omega), wrap64 (by omega) (by omega)]; omega) ?_
        refine ifd (fun hlt => ?_) (fun hlt => ?_)
        ·refine cOw (ih a mid (limit) d4 _ (by omega) (by omega) (by omega) hs4 hle (by omega) q4) fun v μ7 h' hle7 hap hR => ?_
         obtain ⟨rfl, L, g1, g2, rfl, hs5⟩ := hR
         have w_ := q6 L g1 g2
         obtain ⟨g3, g4⟩ := w_
         refine nEq (x := ((mid + 1 : Nat) : Int)) (by rw [wrap64 (by omega) (by omega)]; omega) ?_
         exact ⟨(mid + 1, b, limit, _, ap, L, μ7), ⟨by dsimp only; omega, hb, by dsimp only; omega, by dsimp only; omega, hs5, g3, hle.trans hle7, fun R h1 h2 => hfin R (g4 R h1 h2).1 (g4 R h1 h2).2⟩, by dsimp only; omega, ⟨⟨rfl, rfl, rfl, rfl, rfl, rfl, trivial⟩, ⟨rfl, trivial⟩, rfl, rfl⟩⟩
        ·refine nEq (x := ((mid + 1 : Nat) : Int)) (by rw [wrap64 (by omega) (by omega)]; omega) ?_
         refine cOw (ih (mid + 1) b (limit) d4 _ (by omega) (by omega) (by omega) hs4 hle (by omega) q5) fun v μ7 h' hle7 hap hR => ?_
         obtain ⟨rfl, L, g1, g2, rfl, hs5⟩ := hR
         have w_ := q7 L g1 g2
         obtain ⟨g3, g4⟩ := w_
         exact ⟨(a, mid, limit, _, ap, L, μ7), ⟨by dsimp only; omega, by dsimp only; omega, by dsimp only; omega, by dsimp only; omega, hs5, g3, hle.trans hle7, fun R h1 h2 => hfin R (g4 R h1 h2).1 (g4 R h1 h2).2⟩, by dsimp only; omega, ⟨⟨rfl, rfl, rfl, rfl, rfl, rfl, trivial⟩, ⟨rfl, trivial⟩, rfl, rfl⟩⟩
      ·refine cOw (partitionF_spec H (pivot := p) hle hs3 (by omega) (by omega) hb) fun v μ6 h' hle' hap hR => ?_
       obtain ⟨⟨ap, rfl⟩, e1, rfl, hs4⟩ := hR
       have hsz' := H.size hs3
       obtain rfl := e1.symm
       obtain ⟨mid, ap', d4, hx⟩ : ∃ mid ap' d4, partition lt d3 a b (p) = (mid, ap', d4) := ⟨_, _, _, rfl⟩
       rw [hx] at hs4 ⊢
       have w_ := round_part hO (partition_holds lt) (by omega) (by omega) (by omega) hB hx
       obtain ⟨q1, q2, q3, q4, q5, q6, q7⟩ := w_
       refine nEq (x := ((mid - a : Nat) : Int)) (by rw [wrap64 (by omega) (by omega)]; omega) ?_
       refine nEq (x := ((b - mid : Nat) : Int)) (by rw [wrap64 (by omega) (by omega)]; omega) ?_
       refine need_intro (by decide) ?_
       refine nEq (x := (((b - a) / 8 : Nat) : Int)) (by rw [Int.tdiv_eq_ediv_of_nonneg (by omega), wrap64 (by omega) (by omega)]; omega) ?_
       refine ifd (fun hlt => ?_) (fun hlt => ?_)
       ·refine cOw (ih a mid (limit) d4 _ (by omega) (by omega) (by omega) hs4 hle (by omega) q4) fun v μ7 h' hle7 hap hR => ?_
        obtain ⟨rfl, L, g1, g2, rfl, hs5⟩ := hR
        have w_ := q6 L g1 g2
        obtain ⟨g3, g4⟩ := w_
        refine nEq (x := ((mid + 1 : Nat) : Int)) (by rw [wrap64 (by omega) (by omega)]; omega) ?_
        exact ⟨(mid + 1, b, limit, _, ap, L, μ7), ⟨by dsimp only; omega, hb, by dsimp only; omega, by dsimp only; omega, hs5, g3, hle.trans hle7, fun R h1 h2 => hfin R (g4 R h1 h2).1 (g4 R h1 h2).2⟩, by dsimp only; omega, ⟨⟨rfl, rfl, rfl, rfl, rfl, rfl, trivial⟩, ⟨rfl, trivial⟩, rfl, rfl⟩⟩
       ·refine nEq (x := ((mid + 1 : Nat) : Int)) (by rw [wrap64 (by omega) (by omega)]; omega) ?_
        refine cOw (ih (mid + 1) b (limit) d4 _ (by omega) (by omega) (by omega) hs4 hle (by omega) q5) fun v μ7 h' hle7 hap hR => ?_
        obtain ⟨rfl, L, g1, g2, rfl, hs5⟩ := hR
        have w_ := q7 L g1 g2
        obtain ⟨g3, g4⟩ := w_
        exact ⟨(a, mid, limit, _, ap, L, μ7), ⟨by dsimp only; omega, by dsimp only; omega, by dsimp only; omega, by dsimp only; omega, hs5, g3, hle.trans hle7, fun R h1 h2 => hfin R (g4 R h1 h2).1 (g4 R h1 h2).2⟩, by dsimp only; omega, ⟨⟨rfl, rfl, rfl, rfl, rfl, rfl, trivial⟩, ⟨rfl, trivial⟩, rfl, rfl⟩⟩
    ·refine ifd (fun ha0 => ?_) (fun ha0 => ?_)
     ·refine nEq (x := ((a - 1 : Nat) : Int)) (by rw [wrap64 (by omega) (by omega)]; omega) ?_
      refine cOw (H.less hle hs1 (i := a - 1) (j := p) (by omega) (by omega)) fun v μ' h' hle' hap hR => ?_
      obtain ⟨rfl, e2, rfl⟩ := hR
      obtain rfl := e2.symm
      clear hle' hap
      have hsz := H.size hs1
      refine iIn (fun hnl => ?_) (fun hnl => ?_)
      ·refine cOw (partitionEqualF_spec H (pivot := p) hle hs1 (by omega) (by omega) hb) fun v μ6 h' hle' hap hR => ?_
       obtain ⟨rfl, e1, rfl, hs4⟩ := hR
       obtain rfl := e1.symm
       obtain ⟨mid, d4, hx⟩ : ∃ mid d4, partitionEqual lt d a b (p) = (mid, d4) := ⟨_, _, rfl⟩
       rw [hx] at hs4 ⊢
       have q := round_eq hO (partitionEqual_holds lt) (by omega) (by omega) (by omega) (by omega) hB (by simpa using hnl) hx
       have qa := q.1
       exact ⟨(mid, b, limit, true, wp, d4, _), ⟨q.2.1, hb, by dsimp only; omega, by dsimp only; omega, hs4, q.2.2.2.1, hle, fun R h1 h2 => hfin R (q.2.2.2.2 R h1 h2).1 (q.2.2.2.2 R h1 h2).2⟩, by dsimp only; omega, ⟨⟨rfl, rfl, rfl, rfl, rfl, rfl, trivial⟩, ⟨rfl, trivial⟩, rfl, rfl⟩⟩
      ·refine cOw (partitionF_spec H (pivot := p) hle hs1 (by omega) (by omega) hb) fun v μ6 h' hle' hap hR => ?_
       obtain ⟨⟨ap, rfl⟩, e1, rfl, hs4⟩ := hR
       have hsz' := H.size hs1
       obtain rfl := e1.symm
       obtain ⟨mid, ap', d4, hx⟩ : ∃ mid ap' d4, partition lt d a b (p) = (mid, ap', d4) := ⟨_, _, _, rfl⟩
       rw [hx] at hs4 ⊢
       have w_ := round_part hO (partition_holds lt) (by omega) (by omega) (by omega) hB hx
       obtain ⟨q1, q2, q3, q4, q5, q6, q7⟩ := w_
       refine nEq (x := ((mid - a : Nat) : Int)) (by rw [wrap64 (by omega) (by omega)]; omega) ?_
       refine nEq (x := ((b - mid : Nat) : Int)) (by rw [wrap64 (by omega) (by omega)]; omega) ?_
       refine need_intro (by decide) ?_
       refine nEq (x := (((b - a) / 8 : Nat) : Int)) (by rw [Int.tdiv_eq_ediv_of_nonneg (by omega), wrap64 (by omega) (by omega)]; omega) ?_
       refine ifd (fun hlt => ?_) (fun hlt => ?_)
       ·refine cOw (ih a mid (limit) d4 _ (by omega) (by omega) (by omega) hs4 hle (by omega) q4) fun v μ7 h' hle7 hap hR => ?_
        obtain ⟨rfl, L, g1, g2, rfl, hs5⟩ := hR
        have w_ := q6 L g1 g2
        obtain ⟨g3, g4⟩ := w_
        refine nEq (x := ((mid + 1 : Nat) : Int)) (by rw [wrap64 (by omega) (by omega)]; omega) ?_
        exact ⟨(mid + 1, b, limit, _, ap, L, μ7), ⟨by dsimp only; omega, hb, by dsimp only; omega, by dsimp only; omega, hs5, g3, hle.trans hle7, fun R h1 h2 => hfin R (g4 R h1 h2).1 (g4 R h1 h2).2⟩, by dsimp only; omega, ⟨⟨rfl, rfl, rfl, rfl, rfl, rfl, trivial⟩, ⟨rfl, trivial⟩, rfl, rfl⟩⟩
       ·refine nEq (x := ((mid + 1 : Nat) : Int)) (by rw [wrap64 (by omega) (by omega)]; omega) ?_
        refine cOw (ih (mid + 1) b (limit) d4 _ (by omega) (by omega) (by omega) hs4 hle (by omega) q5) fun v μ7 h' hle7 hap hR => ?_
        obtain ⟨rfl, L, g1, g2, rfl, hs5⟩ := hR
        have w_ := q7 L g1 g2
        obtain ⟨g3, g4⟩ := w_
        exact ⟨(a, mid, limit, _, ap, L, μ7), ⟨by dsimp only; omega, by dsimp only; omega, by dsimp only; omega, by dsimp only; omega, hs5, g3, hle.trans hle7, fun R h1 h2 => hfin R (g4 R h1 h2).1 (g4 R h1 h2).2⟩, by dsimp only; omega, ⟨⟨rfl, rfl, rfl, rfl, rfl, rfl, trivial⟩, ⟨rfl, trivial⟩, rfl, rfl⟩⟩
     ·refine cOw (partitionF_spec H (pivot := p) hle hs1 (by omega) (by omega) hb) fun v μ6 h' hle' hap hR => ?_
      obtain ⟨⟨ap, rfl⟩, e1, rfl, hs4⟩ := hR
      have hsz' := H.size hs1
      obtain rfl := e1.symm
      obtain ⟨mid, ap', d4, hx⟩ : ∃ mid ap' d4, partition lt d a b (p) = (mid, ap', d4) := ⟨_, _, _, rfl⟩
      rw [hx] at hs4 ⊢
      have w_ := round_part hO (partition_holds lt) (by omega) (by omega) (by omega) hB hx
      obtain ⟨q1, q2, q3, q4, q5, q6, q7⟩ := w_
      refine nEq (x := ((mid - a : Nat) : Int)) (by rw [wrap64 (by omega) (by omega)]; omega) ?_
      refine nEq (x := ((b - mid : Nat) : Int)) (by rw [wrap64 (by omega) (by omega)]; omega) ?_
      refine need_intro (by decide) ?_
      refine nEq (x := (((b - a) / 8 : Nat) : Int)) (by rw [Int.tdiv_eq_ediv_of_nonneg (by omega), wrap64 (by omega) (by omega)]; omega) ?_
      refine ifd (fun hlt => ?_) (fun hlt => ?_)
      ·refine cOw (ih a mid (limit) d4 _ (by omega) (by omega) (by omega) hs4 hle (by omega) q4) fun v μ7 h' hle7 hap hR => ?_
       obtain ⟨rfl, L, g1, g2, rfl, hs5⟩ := hR
       have w_ := q6 L g1 g2
       obtain ⟨g3, g4⟩ := w_
       refine nEq (x := ((mid + 1 : Nat) : Int)) (by rw [wrap64 (by omega) (by omega)]; omega) ?_
       exact ⟨(mid + 1, b, limit, _, ap, L, μ7), ⟨by dsimp only; omega, hb, by dsimp only; omega, by dsimp only; omega, hs5, g3, hle.trans hle7, fun R h1 h2 => hfin R (g4 R h1 h2).1 (g4 R h1 h2).2⟩, by dsimp only; omega, ⟨⟨rfl, rfl, rfl, rfl, rfl, rfl, trivial⟩, ⟨rfl, trivial⟩, rfl, rfl⟩⟩
      ·refine nEq (x := ((mid + 1 : Nat) : Int)) (by rw [wrap64 (by omega) (by omega)]; omega) ?_
       refine cOw (ih (mid + 1) b (limit) d4 _ (by omega) (by omega) (by omega) hs4 hle (by omega) q5) fun v μ7 h' hle7 hap hR => ?_
       obtain ⟨rfl, L, g1, g2, rfl, hs5⟩ := hR
       have w_ := q7 L g1 g2
       obtain ⟨g3, g4⟩ := w_
       exact ⟨(a, mid, limit, _, ap, L, μ7), ⟨by dsimp only; omega, by dsimp only; omega, by dsimp only; omega, by dsimp only; omega, hs5, g3, hle.trans hle7, fun R h1 h2 => hfin R (g4 R h1 h2).1 (g4 R h1 h2).2⟩, by dsimp only; omega, ⟨⟨rfl, rfl, rfl, rfl, rfl, rfl, trivial⟩, ⟨rfl, trivial⟩, rfl, rfl⟩⟩
   ·refine ifd (fun ha0 => ?_) (fun ha0 => ?_)
    ·refine nEq (x := ((a - 1 : Nat) : Int)) (by rw [wrap64 (by omega) (by omega)]; omega) ?_
     refine cOw (H.less hle hs1 (i := a - 1) (j := p) (by omega) (by omega)) fun v μ' h' hle' hap hR => ?_
     obtain ⟨rfl, e2, rfl⟩ := hR
     obtain rfl := e2.symm
     clear hle' hap
     have hsz := H.size hs1
     refine iIn (fun hnl => ?_) (fun hnl => ?_)
     ·refine cOw (partitionEqualF_spec H (pivot := p) hle hs1 (by omega) (by omega) hb) fun v μ6 h' hle' hap hR => ?_
      obtain ⟨rfl, e1, rfl, hs4⟩ := hR
      obtain rfl := e1.symm
      obtain ⟨mid, d4, hx⟩ : ∃ mid d4, partitionEqual lt d a b (p) = (mid, d4) := ⟨_, _, rfl⟩
      rw [hx] at hs4 ⊢
      have q := round_eq hO (partitionEqual_holds lt) (by omega) (by omega) (by omega) (by omega) hB (by simpa using hnl) hx
      have qa := q.1
      exact ⟨(mid, b, limit, true, wp, d4, _), ⟨q.2.1, hb, by dsimp only; omega, by dsimp only; omega, hs4, q.2.2.2.1, hle, fun R h1 h2 => hfin R (q.2.2.2.2 R h1 h2).1 (q.2.2.2.2 R h1 h2).2⟩, by dsimp only; omega, ⟨⟨rfl, rfl, rfl, rfl, rfl, rfl, trivial⟩, ⟨rfl, trivial⟩, rfl, rfl⟩⟩
     ·refine cOw (partitionF_spec H (pivot := p) hle hs1 (by omega) (by omega) hb) fun v μ6 h' hle' hap hR => ?_
      obtain ⟨⟨ap, rfl⟩, e1, rfl, hs4⟩ := hR
      have hsz' := H.size hs1
      obtain rfl := e1.symm
      obtain ⟨mid, ap', d4, hx⟩ : ∃ mid ap' d4, partition lt d a b (p) = (mid, ap', d4) := ⟨_, _, _, rfl⟩
      rw [hx] at hs4 ⊢
      have w_ := round_part hO (partition_holds lt) (by omega) (by omega) (by omega) hB hx
      obtain ⟨q1, q2, q3, q4, q5, q6, q7⟩ := w_
      refine nEq (x := ((mid - a : Nat) : Int)) (by rw [wrap64 (by omega) (by omega)]; omega) ?_
      refine nEq (x := ((b - mid : Nat) : Int)) (by rw [wrap64 (by omega) (by omega)]; omega) ?_
      refine need_intro (by decide) ?_
      refine nEq (x := (((b - a) / 8 : Nat) : Int)) (by rw [Int.tdiv_eq_ediv_of_nonneg (by omega), wrap64 (by omega) (by omega)]; omega) ?_
      refine ifd (fun hlt => ?_) (fun hlt => ?_)
      ·refine cOw (ih a mid (limit) d4 _ (by omega) (by omega) (by omega) hs4 hle (by omega) q4) fun v μ7 h' hle7 hap hR => ?_
       obtain ⟨rfl, L, g1, g2, rfl, hs5⟩ := hR
       have w_ := q6 L g1 g2
       obtain ⟨g3, g4⟩ := w_
       refine nEq (x := ((mid + 1 : Nat) : Int)) (by rw [wrap64 (by omega) (by omega)]; omega) ?_
       exact ⟨(mid + 1, b, limit, _, ap, L, μ7), ⟨by dsimp only; omega, hb, by dsimp only; omega, by dsimp only; omega, hs5, g3, hle.trans hle7, fun R h1 h2 => hfin R (g4 R h1 h2).1 (g4 R h1 h2).2⟩, by dsimp only; omega, ⟨⟨rfl, rfl, rfl, rfl, rfl, rfl, trivial⟩, ⟨rfl, trivial⟩, rfl, rfl⟩⟩
      ·refine nEq (x := ((mid + 1 : Nat) : Int)) (by rw [wrap64 (by omega) (by omega)]; omega) ?_
       refine cOw (ih (mid + 1) b (limit) d4 _ (by omega) (by omega) (by omega) hs4 hle (by omega) q5) fun v μ7 h' hle7 hap hR => ?_
       obtain ⟨rfl, L, g1, g2, rfl, hs5⟩ := hR
       have w_ := q7 L g1 g2
       obtain ⟨g3, g4⟩ := w_
       exact ⟨(a, mid, limit, _, ap, L, μ7), ⟨by dsimp only; omega, by dsimp only; omega, by dsimp only; omega, by dsimp only; omega, hs5, g3, hle.trans hle7, fun R h1 h2 => hfin R (g4 R h1 h2).1 (g4 R h1 h2).2⟩, by dsimp only; omega, ⟨⟨rfl, rfl, rfl, rfl, rfl, rfl, trivial⟩, ⟨rfl, trivial⟩, rfl, rfl⟩⟩
    ·refine cOw (partitionF_spec H (pivot := p) hle hs1 (by omega) (by omega) hb) fun v μ6 h' hle' hap hR => ?_
     obtain ⟨⟨ap, rfl⟩, e1, rfl, hs4⟩ := hR
     have hsz' := H.size hs1
     obtain rfl := e1.symm
     obtain ⟨mid, ap', d4, hx⟩ : ∃ mid ap' d4, partition lt d a b (p) = (mid, ap', d4) := ⟨_, _, _, rfl⟩
     rw [hx] at hs4 ⊢
     have w_ := round_part hO (partition_holds lt) (by omega) (by omega) (by omega) hB hx
     obtain ⟨q1, q2, q3, q4, q5, q6, q7⟩ := w_
     refine nEq (x := ((mid - a : Nat) : Int)) (by rw [wrap64 (by omega) (by omega)]; omega) ?_
     refine nEq (x := ((b - mid : Nat) : Int)) (by rw [wrap64 (by omega) (by omega)]; omega) ?_
     refine need_intro (by decide) ?_
     refine nEq (x := (((b - a) / 8 : Nat) : Int)) (by rw [Int.tdiv_eq_ediv_of_nonneg (by omega), wrap64 (by omega) (by omega)]; omega) ?_
     refine ifd (fun hlt => ?_) (fun hlt => ?_)
     ·refine cOw (ih a mid (limit) d4 _ (by omega) (by omega) (by omega) hs4 hle (by omega) q4) fun v μ7 h' hle7 hap hR => ?_
      obtain ⟨rfl, L, g1, g2, rfl, hs5⟩ := hR
      have w_ := q6 L g1 g2
      obtain ⟨g3, g4⟩ := w_
      refine nEq (x := ((mid + 1 : Nat) : Int)) (by rw [wrap64 (by omega) (by omega)]; omega) ?_
      exact ⟨(mid + 1, b, limit, _, ap, L, μ7), ⟨by dsimp only; omega, hb, by dsimp only; omega, by dsimp only; omega, hs5, g3, hle.trans hle7, fun R h1 h2 => hfin R (g4 R h1 h2).1 (g4 R h1 h2).2⟩, by dsimp only; omega, ⟨⟨rfl, rfl, rfl, rfl, rfl, rfl, trivial⟩, ⟨rfl, trivial⟩, rfl, rfl⟩⟩
     ·refine nEq (x := ((mid + 1 : Nat) : Int)) (by rw [wrap64 (by omega) (by omega)]; omega) ?_
      refine cOw (ih (mid + 1) b (limit) d4 _ (by omega) (by omega) (by omega) hs4 hle (by omega) q5) fun v μ7 h' hle7 hap hR => ?_
      obtain ⟨rfl, L, g1, g2, rfl, hs5⟩ := hR
      have w_ := q7 L g1 g2
      obtain ⟨g3, g4⟩ := w_
      exact ⟨(a, mid, limit, _, ap, L, μ7), ⟨by dsimp only; omega, by dsimp only; omega, by dsimp only; omega, by dsimp only; omega, hs5, g3, hle.trans hle7, fun R h1 h2 => hfin R (g4 R h1 h2).1 (g4 R h1 h2).2⟩, by dsimp only; omega, ⟨⟨rfl, rfl, rfl, rfl, rfl, rfl, trivial⟩, ⟨rfl, trivial⟩, rfl, rfl⟩⟩
end
end Go.Vx
namespace Go.Vx
open Go.Proofs Classical
open Go.Sort
open Go.Extern Go.Extern.Rtype Go.RowKit Go.Lib
section
variable {P : Program} {f : FuncId} {args : List Value} {μ h0 : Mem}
theorem SpecH.ext {R : Value → Mem → Mem → Prop} (h : ∀ w, Holds μ w → Holds h0 w → Apart μ h0 → ∃ v w' μ' h', (callFunc f args.toArray).run P w = .ok (.value v) w' ∧ R v μ' h' ∧ Step μ h0 w μ' h' w') : SpecH P f args μ h0 R :=
 ⟨trivial, fun w h1 h2 h3 => by
  have w_ := h w h1 h2 h3
  obtain ⟨v, w', μ', h', e, hr, hS⟩ := w_
  exact .inr ⟨v, w', e, v, μ', h', rfl, hr, hS⟩⟩
theorem Step.same {w : World} (h1 : Holds μ w) (h2 : Holds h0 w) (h3 : Apart μ h0) : Step μ h0 w μ h0 w :=
 ⟨Mem.Le.refl _, h1, h2, h3, fun _b h h' => absurd h h', fun _b h => .inr h, Nat.le_refl _, fun _ _ _ => rfl, rfl, rfl, rfl⟩
theorem Step.row {w : World} {r : Nat} {cs cs' : Array Value} {ty : TypeId} (h1 : Holds μ w) (h2 : Holds h0 w) (h3 : Apart μ h0) (hr : h0 r = some (.cells cs ty (0, 0))) : Step μ h0 w μ (h0.set r (.cells cs' ty (0, 0))) (w.setRow r cs') := by
 have hne : ∀ b, μ b ≠ none → b ≠ r := fun b hb e => by
  subst e; rw [h3 b hb] at hr; cases hr
 have hg : w.heap[r]? = some (.cells cs ty (0, 0)) := h2 _ _ hr
 refine ⟨Mem.Le.refl _, fun b o hb => ?_, fun b o hb => ?_, fun b hb => ?_, fun b h h' => absurd h h', fun b h => ?_, by simp, fun b _ hb => setRow_other w r b _ fun e => ?_, rfl, rfl, rfl⟩
 ·rw [setRow_other w r b _ (hne b (by simp [hb]))]; exact h1 b o hb
 ·rw [Mem.set_get] at hb
  split at hb
  ·rename_i e; subst e; cases hb; rw [setRow_heap w b _ _ ty (0, 0) hg]
  ·rename_i e; rw [setRow_other w r b _ e]; exact h2 b o hb
 ·rw [Mem.set_ne (hne b hb)]; exact h3 b hb
 ·by_cases e : b = r
  ·subst e; exact .inr (by rw [hr]; simp)
  ·rw [Mem.set_ne e] at h; exact .inr h
 ·subst e; rw [hr] at hb; cases hb
theorem Step.alloc {w : World} {o : Obj} (h1 : Holds μ w) (h2 : Holds h0 w) (h3 : Apart μ h0) : Step μ h0 w (μ.set w.heap.size o) h0 (w.alloc o) ∧ μ w.heap.size = none := by
 have hlt : ∀ b o, w.heap[b]? = some o → b < w.heap.size := fun b o h => (Array.getElem?_eq_some_iff.1 h).1
 have hm : μ w.heap.size = none := by
  cases e : μ w.heap.size with
  | none => rfl
  | some o => have := hlt _ _ (h1 _ _ e); omega
 have hh : h0 w.heap.size = none := by
  cases e : h0 w.heap.size with
  | none => rfl
  | some o => have := hlt _ _ (h2 _ _ e); omega
 have hk : ∀ b, b < w.heap.size → (w.alloc o).heap[b]? = w.heap[b]? := fun b hb => by
  show (w.heap.push o)[b]? = _
  rw [Array.getElem?_push, if_neg (by omega)]
 refine ⟨⟨fun b x hb => ?_, fun b x hb => ?_, fun b x hb => ?_, fun b hb => ?_, fun b h h' => ?_, fun b h => .inr h, by show w.heap.size ≤ (w.heap.push o).size; simp, fun b hb _ => hk b hb, rfl, rfl, rfl⟩, hm⟩
 ·rw [Mem.set_ne (fun e => by subst e; rw [hm] at hb; cases hb)]; exact hb
 ·rw [Mem.set_get] at hb
  split at hb
  ·rename_i e; subst e; cases hb; show (w.heap.push o)[w.heap.size]? = some o; simp
  ·rw [hk b (hlt _ _ (h1 _ _ hb))]; exact h1 _ _ hb
 ·rw [hk b (hlt _ _ (h2 _ _ hb))]; exact h2 _ _ hb
 ·rw [Mem.set_get] at hb
  split at hb
  ·rename_i e; subst e; exact hh
  ·exact h3 b hb
 ·rw [Mem.set_get] at h'
  split at h'
  ·rename_i e; subst e; exact .inl (Nat.le_refl _)
  ·exact absurd h h'
end
structure SlTy (t e : TypeId) (i ie : TypeInfo) (ke : Nat) : Prop where
 hi : Try.prog.info? t = some i
 hd : i.desc = .slice e
 pk : Try.prog.packed t = false
 hie : Try.prog.info? e = some ie
 hke : ∀ w, (Extern.Rtype.kind e).run Try.prog w = .ok ke w
 h9 : swapperK 2 ie ke = 9
theorem SlTy.nine {t e : TypeId} {i ie : TypeInfo} {ke : Nat} (T : SlTy t e i ie ke) {n : Nat} (h : 2 ≤ n) : swapperK n ie ke = 9 := by
 rw [← T.h9]
 unfold swapperK
 have h0 : (n == 0) = false := by simp; omega
 have h1 : (n == 1) = false := by simp; omega
 have h2 : ((2 : Nat) == 0) = false := rfl
 have h3 : ((2 : Nat) == 1) = false := rfl
 simp only [h0, h1, h2, h3]
section
variable {μ : Mem}
theorem valueOf_spec {t e : TypeId} {i ie : TypeInfo} {ke : Nat} (T : SlTy t e i ie ke) (p : Option Addr) (n c : Nat) : Spec Try.prog 113 [.iface t (.slice p n c)] μ fun v μ' => ∃ r, v = .agg #[typeHandle Try.prog t, .pointer (some ⟨r, 0, none⟩), .int .u64 151] ∧ μ' r = some (.cells #[.slice p n c] t (0, 0)) := by
 refine SpecH.ext fun w h1 h2 h3 => ?_
 have hv := run_valueOf_slice (P := Try.prog) t e i T.hi T.hd p n c w
 refine ⟨_, _, _, _, ?_, ⟨w.heap.size, rfl, Mem.set_at _ _ _⟩, (Step.alloc h1 h2 h3).1⟩
 rw [run_callFunc_extern Try.func113 (by kernel_rfl) (by kernel_rfl) (by kernel_rfl) (e := fun args => Extern.ReflectliteValue.unpack (args.getD 0 (.tuple #[]))) (by kernel_rfl),
  show Sem.run Try.prog ((fun args : Array Value => Extern.ReflectliteValue.unpack (args.getD 0 (.tuple #[]))) #[.iface t (.slice p n c)]) w = _ from hv]
 rfl
theorem valueLen_spec {t e : TypeId} {i ie : TypeInfo} {ke : Nat} (T : SlTy t e i ie ke) {p : Option Addr} {n c r : Nat} (hr : μ r = some (.cells #[.slice p n c] t (0, 0))) : Gives Try.prog 116 [.agg #[typeHandle Try.prog t, .pointer (some ⟨r, 0, none⟩), .int .u64 151]] μ (.int .i64 n) := by
 refine SpecH.ext fun w h1 h2 h3 => ?_
 have hc : w.cell? ⟨r, 0, none⟩ = some (.slice p n c) := by simp [World.cell?, h1 _ _ hr]
 have hl := run_valueLen_slice (P := Try.prog) t e i T.hi T.hd T.pk ⟨r, 0, none⟩ p n c w hc
 refine ⟨_, _, _, _, ?_, ⟨rfl, rfl⟩, Step.same h1 h2 h3⟩
 rw [run_callFunc_extern Try.func116 (by kernel_rfl) (by kernel_rfl) (by kernel_rfl) (e := Extern.ReflectliteValue.method (Extern.ReflectliteValue.valueError "reflectlite.Value.Len" 0) Extern.ReflectliteValue.len) (by kernel_rfl), hl]
 rfl
theorem swapper_spec {t e : TypeId} {i ie : TypeInfo} {ke : Nat} (T : SlTy t e i ie ke) (p : Option Addr) {n : Nat} (c : Nat) : ∃ (k : FuncId) (bs : List Value), (2 ≤ n → k = 145 ∧ bs = [.slice p n c, typeHandle Try.prog e]) ∧ Gives Try.prog 114 [.iface t (.slice p n c)] μ (.func (.func k) #[] bs.toArray) := by
 have go : ∀ (f : Nat) (bs : List Value), Try.prog.funcs.findIdx? (·.name == "internal/reflectlite" ++ ".Swapper$" ++ toString (swapperK n ie ke)) = some f → (if swapperK n ie ke ≤ 2 then (#[] : Array Value) else #[.slice p n c, typeHandle Try.prog e]) = bs.toArray →
   Gives Try.prog 114 [.iface t (.slice p n c)] μ (.func (.func f) #[] bs.toArray) := fun f bs hf hbs => by
  refine SpecH.ext fun w h1 h2 h3 => ?_
  have hs := run_swapper_slice (P := Try.prog) t e i ie T.hi T.hd T.hie ke T.hke p n c f hf w
  rw [hbs] at hs
  refine ⟨_, _, _, _, ?_, ⟨rfl, rfl⟩, Step.same h1 h2 h3⟩
  rw [run_callFunc_extern Try.func114 (by kernel_rfl) (by kernel_rfl) (by kernel_rfl) (e := Extern.ReflectliteSwapper.swapper "internal/reflectlite" (Extern.ReflectliteValue.valueError "Swapper")) (by kernel_rfl), hs]
  rfl
 by_cases h2 : 2 ≤ n
 ·refine ⟨145, [.slice p n c, typeHandle Try.prog e], fun _ => ⟨rfl, rfl⟩, go _ _ ?_ ?_⟩
  ·rw [T.nine h2]; kernel_rfl
  ·rw [T.nine h2]; rfl
 ·by_cases h0 : n = 0
  ·subst h0
   refine ⟨137, [], fun h => by omega, go _ _ ?_ ?_⟩
   ·have : swapperK 0 ie ke = 1 := rfl
    have e : Try.prog.funcs.findIdx? (·.name == "internal/reflectlite" ++ ".Swapper$" ++ toString (1 : Nat)) = some 137 := by kernel_rfl
    rw [this]; exact e
   ·rfl
  ·obtain rfl : n = 1 := by omega
   refine ⟨138, [], fun h => by omega, go _ _ ?_ ?_⟩
   ·have : swapperK 1 ie ke = 2 := rfl
    have e : Try.prog.funcs.findIdx? (·.name == "internal/reflectlite" ++ ".Swapper$" ++ toString (2 : Nat)) = some 138 := by kernel_rfl
    rw [this]; exact e
   ·rfl
end
end Go.Vx
namespace Go.Vx
open Go.Proofs Classical
open Go.Sort
open Go.Extern Go.Extern.Rtype Go.RowKit Go.Lib
def RowV (h0 : Mem) (r : Nat) (ty : TypeId) (rest : List Value) (d : Array Value) : Mem := h0.set r (.cells (List.toArray (d.toList.flatMap vcells ++ rest)) ty (0, 0))
def Els (es : Nat) (d : Array Value) : Prop := ∀ x ∈ d.toList, (vcells x).length = es ∧ ∀ u ∈ vcells x, u.oneCell' = true
theorem flat_put {es : Nat} : ∀ {l : List Value}, (∀ y ∈ l, (vcells y).length = es) → ∀ {i : Nat}, i < l.length → ∀ {y : Value}, (vcells y).length = es → ∀ rest : List Value,
  (l.flatMap vcells ++ rest).take (i * es) ++ vcells y ++ (l.flatMap vcells ++ rest).drop (i * es + es) = (l.set i y).flatMap vcells ++ rest
 | [], _, i, hi, _, _, _ => by simp at hi
 | z :: r, hl, 0, _, y, hy, rest => by
  have hz := hl z (by simp)
  simp only [Nat.zero_mul, List.take_zero, List.nil_append, Nat.zero_add, List.set_cons_zero, List.flatMap_cons, List.append_assoc]
  rw [← hz, List.drop_left]
 | z :: r, hl, i + 1, hi, y, hy, rest => by
  have hz := hl z (by simp)
  have ih := flat_put (l := r) (fun y h => hl y (List.mem_cons_of_mem _ h)) (i := i) (by simpa using hi) hy rest
  simp only [List.set_cons_succ, List.flatMap_cons, List.append_assoc] at ih ⊢
  have e1 : (i + 1) * es = (vcells z).length + i * es := by rw [hz, Nat.add_mul, Nat.one_mul, Nat.add_comm]
  rw [e1, List.take_length_add_append, Nat.add_assoc, List.drop_length_add_append, List.append_assoc, ih]
theorem arrV_at {d : Array Value} {k : Nat} (h : k < d.size) : d.toList[k]? = some d[k]! := by
 rw [Array.getElem?_toList, getElem!_pos d k h, Array.getElem?_eq_getElem h]
theorem arrV_mem {d : Array Value} {k : Nat} (h : k < d.size) : d[k]! ∈ d.toList := List.mem_of_getElem? (arrV_at h)
theorem Els.perm {es n : Nat} {d d' : Array Value} (hn : d.size = n) (h : Els es d) (p : PermIn 0 n d d') : Els es d' := fun x hx => by
 have w_ := List.mem_iff_getElem?.1 hx
 obtain ⟨i, hi⟩ := w_
 have hi2 : i < d'.size := by have := (List.getElem?_eq_some_iff.1 hi).1; simpa using this
 rw [arrV_at hi2] at hi
 cases hi
 exact permIn_all d d' 0 n (fun x => (vcells x).length = es ∧ ∀ u ∈ vcells x, u.oneCell' = true) (by omega) p (fun j _ hj => h _ (arrV_mem (by omega))) i (by omega) (by rw [p.1] at hi2; omega)
section
variable {P : Program} {μ h0 : Mem} {r : Nat} {ty : TypeId} {rest : List Value} {d : Array Value} {es : Nat}
theorem RowV.cell (hE : Els es d) {i c : Nat} {v : Value} (hi : i < d.size) (hv : (vcells d[i]!)[c]? = some v) : (RowV h0 r ty rest d).cell ⟨r, i * es + c, none⟩ = some v := by
 have h := flat_at (fun y hy => (hE y hy).1) (arrV_at hi) hv
 simp only [Mem.cell, RowV, Mem.set_at, Option.isSome_none]
 have h2 := (List.getElem?_eq_some_iff.1 h).1
 simp only [List.getElem?_toArray]
 rw [List.getElem?_append_left h2, h]
 rfl
theorem load_row {e : TypeId} {ti : TI} (hti : TIok P e ti) (w : World) (a : Addr) (x : Value) (hl : (vcells x).length = ti.size) (h : ∀ j v, (vcells x)[j]? = some v → w.cell? (a.add j) = some v) (h1 : ti.agg = false → ti.size = 1) (h2 : ∀ u ∈ vcells x, u.oneCell' = true) :
  ∃ y, (loadVar e a).run P w = .ok y w ∧ vcells y = vcells x := by
 have hr := run_loadVar_cells hti w a (vcells x) hl h h1
 refine ⟨_, hr, ?_⟩
 cases hg : ti.agg with
 | true => simp [vcells]
 | false =>
  rw [h1 hg] at hl
  match hc : vcells x, hl with
  | [u], _ =>
   have := h2 u (by rw [hc]; simp)
   simp only [Bool.false_eq_true, if_false, List.getD_cons_zero]
   cases u <;> first | rfl | (simp [Value.oneCell'] at this)
theorem swap9_spec {e : TypeId} {ti : TI} (hti : TIok Try.prog e ti) (h1 : ti.agg = false → ti.size = 1) (hE : Els ti.size d) {n cap i j : Nat} (hd : d.size = n) (hi : i < n) (hj : j < n) :
  SpecH Try.prog 145 [.int .i64 i, .int .i64 j, .slice (some ⟨r, 0, none⟩) n cap, typeHandle Try.prog e] μ (RowV h0 r ty rest d) fun v μ' h' => v = .tuple #[] ∧ μ' = μ ∧ h' = RowV h0 r ty rest (swp d i j) := by
 refine SpecH.ext fun w hm hh ha => ?_
 subst hd
 have hX := hE _ (arrV_mem hi)
 have hY := hE _ (arrV_mem hj)
 have hcell : ∀ k, k < d.size → ∀ c v, (vcells d[k]!)[c]? = some v → w.cell? ((⟨r, k * ti.size, none⟩ : Addr).add c) = some v := fun k hk c v hv => by
  rw [Addr.add_lit']; exact hh.cell (RowV.cell hE hk hv)
 have w_ := load_row hti w ⟨r, i * ti.size, none⟩ d[i]! hX.1 (hcell i hi) h1 hX.2
 obtain ⟨X, l1, eX⟩ := w_
 have w_ := load_row hti w ⟨r, j * ti.size, none⟩ d[j]! hY.1 (hcell j hj) h1 hY.2
 obtain ⟨Y, l2, eY⟩ := w_
 have hb : ∀ k, k < d.size → k * ti.size + ti.size ≤ d.size * ti.size := fun k hk => by
  have := Nat.mul_le_mul_right ti.size (show k + 1 ≤ d.size from hk); rwa [Nat.add_mul, Nat.one_mul] at this
 have hlen : (d.toList.flatMap vcells).length = d.size * ti.size := by rw [flat_len _ fun y hy => (hE y hy).1]; simp
 have hg : w.heap[r]? = some (.cells (List.toArray (d.toList.flatMap vcells ++ rest)) ty (0, 0)) := hh _ _ (Mem.set_at _ _ _)
 have s1 := run_storeVar hti w r (i * ti.size) _ ty hg Y (by rw [eY]; exact hY.1) (by have := hb i hi; simp [hlen]; omega) (by rw [eY]; exact hY.2)
 have e1 := flat_put (fun y hy => (hE y hy).1) (l := d.toList) (i := i) (by simpa using hi) (y := d[j]!) hY.1 rest
 rw [eY, hY.1] at s1
 simp only [e1] at s1
 have hE2 : ∀ y ∈ d.toList.set i d[j]!, (vcells y).length = ti.size := fun y hy => by
  rcases List.mem_or_eq_of_mem_set hy with h | h
  ·exact (hE y h).1
  ·subst h; exact hY.1
 have hlen2 : ((d.toList.set i d[j]!).flatMap vcells).length = d.size * ti.size := by rw [flat_len _ hE2]; simp
 have hg2 : (w.setRow r (List.toArray ((d.toList.set i d[j]!).flatMap vcells ++ rest))).heap[r]? = some (.cells (List.toArray ((d.toList.set i d[j]!).flatMap vcells ++ rest)) ty (0, 0)) := setRow_heap w r _ _ ty (0, 0) hg
 have s2 := run_storeVar hti _ r (j * ti.size) _ ty hg2 X (by rw [eX]; exact hX.1) (by have := hb j hj; simp [hlen2]; omega) (by rw [eX]; exact hX.2)
 have e2 := flat_put hE2 (i := j) (by simpa using hj) (y := d[i]!) hX.1 rest
 rw [eX, hX.1] at s2
 simp only [e2] at s2
 have hsw : (d.toList.set i d[j]!).set j d[i]! = (swp d i j).toList := by rw [swp, Array.toList_setIfInBounds, Array.toList_setIfInBounds]
 rw [hsw] at s2
 have hss : ∀ z z', (w.setRow r z).setRow r z' = w.setRow r z' := fun z z' => setRow_setRow w r z z'
 have hS := Step.row (cs' := List.toArray ((swp d i j).toList.flatMap vcells ++ rest)) hm hh ha (Mem.set_at _ _ _)
 refine ⟨.tuple #[], w.setRow r (List.toArray ((swp d i j).toList.flatMap vcells ++ rest)), μ, RowV h0 r ty rest (swp d i j), ?_, ⟨rfl, rfl, rfl⟩, ?_⟩
 rotate_left
 ·rw [RowV, Mem.set_set] at hS; exact hS
 rw [run_callFunc_extern Try.func145 (by kernel_rfl) (by kernel_rfl) (by kernel_rfl) (e := Extern.ReflectliteSwapper.swap false) (by kernel_rfl)]
 show (Sem.run _ (ReflectliteSwapper.swap false #[.int .i64 i, .int .i64 j, .slice (some ⟨r, 0, none⟩) d.size cap, typeHandle Try.prog e]) w).andThen _ = _
 have i0 : ¬ ((i : Int) < 0) := by omega
 have i1 : ¬ ((i : Int) ≥ d.size) := by omega
 have j0 : ¬ ((j : Int) < 0) := by omega
 have j1 : ¬ ((j : Int) ≥ d.size) := by omega
 rw [rl_swap]
 simp [i0, i1, j0, j1, ofHandle, handleType, typeHandle, ReflectliteSwapper.exchange, hti.run_sizeOf, Addr.add_lit', l1, l2, s1, s2, hss, Result.andThen]
end
section
variable {μ h0 : Mem} {lf sf : FuncId} {lb sb : List Value} {n : Nat}
theorem insertionSortF_tiny (hn : n ≤ 1) : SpecH Try.prog 146 [fdata lf sf lb sb, .int .i64 0, .int .i64 n] μ h0 fun v μ' h' => v = .tuple #[] ∧ μ' = μ ∧ h' = h0 := by
 refine SpecH.mk [] Try.func146 (by kernel_rfl) ?_
 intro r1
 refine nEq (x := ((1 : Nat) : Int)) (by decide) ?_
 refine lIn (fun i : Nat => i = 1)
  (fun i => ⟨[(1, .val (.int .i64 0)), (2, .val (.int .i64 n)), (3, .loc 0 r1 0), (6, .val (.int .i64 i))], fblk r1 lf sf lb sb, 1, μ, h0⟩) (fun i => n - i)
  1 rfl (fun _ => ⟨rfl, rfl⟩) ⟨⟨rfl, rfl, rfl, rfl, trivial⟩, ⟨rfl, trivial⟩, rfl, rfl⟩ ?_
 rintro i rfl
 refine ifd (fun h => by omega) (fun h => ?_)
 exact rPl ⟨rfl, rfl, rfl⟩
end
section
variable {α : Type} [Inhabited α] {enc : α → Value} {μ h0 : Mem} {r : Nat} {ty t e : TypeId} {i ie : TypeInfo} {ke : Nat} {ti : TI} {rest : List Value} {d0 : Array α} {n cap : Nat} {lf : FuncId} {lb : List Value} {lt : α → α → Bool}
theorem map_get {d : Array α} {k : Nat} (h : k < d.size) : (d.map enc)[k]! = enc d[k]! := by
 rw [getElem!_pos _ k (by simpa using h), getElem!_pos d k h, Array.getElem_map]
theorem swp_map {d : Array α} {a b : Nat} (ha : a < d.size) (hb : b < d.size) : (swp d a b).map enc = swp (d.map enc) a b := by
 unfold swp
 rw [map_get hb, map_get ha]
 simp
theorem permIn_map {d d' : Array α} (hn : d.size = n) (p : PermIn 0 n d d') : PermIn 0 n (d.map enc) (d'.map enc) := by
 obtain ⟨h1, h2, h3⟩ := p
 refine ⟨by simp [h1], fun k hk => ?_, ?_⟩
 ·have hk2 : n ≤ k := by omega
  rw [getElem!_neg _ k (by simp; omega), getElem!_neg _ k (by simp; omega)]
 ·have e1 : d'.extract 0 n = d' := by rw [← hn, ← h1]; exact Array.extract_size
  have e2 : d.extract 0 n = d := by rw [← hn]; exact Array.extract_size
  have e3 : (d'.map enc).extract 0 n = d'.map enc := by rw [← hn, ← h1, show d'.size = (d'.map enc).size by simp]; exact Array.extract_size
  have e4 : (d.map enc).extract 0 n = d.map enc := by rw [← hn, show d.size = (d.map enc).size by simp]; exact Array.extract_size
  rw [e1, e2] at h3
  rw [e3, e4]
  simpa using h3.map enc
theorem permIn_list {d d' : Array α} (hn : d.size = n) (p : PermIn 0 n d d') : d'.toList.Perm d.toList := by
 obtain ⟨h1, h2, h3⟩ := p
 have e1 : d'.extract 0 n = d' := by rw [← hn, ← h1]; exact Array.extract_size
 have e2 : d.extract 0 n = d := by rw [← hn]; exact Array.extract_size
 rwa [e1, e2] at h3
theorem SortBy.row (hti : TIok Try.prog e ti) (h1 : ti.agg = false → ti.size = 1) (hE : Els ti.size (d0.map enc)) (hn : d0.size = n) (hmax : n ≤ 1000000000000)
  (less : ∀ {μ' : Mem} {d : Array α} {i j : Nat}, μ.Le μ' → PermIn 0 n d0 d → i < n → j < n → SpecH Try.prog lf (.int .i64 i :: .int .i64 j :: lb) μ' (RowV h0 r ty rest (d.map enc)) fun v μ'' h' => v = .bool (lt d[i]! d[j]!) ∧ μ'' = μ' ∧ h' = RowV h0 r ty rest (d.map enc)) :
  SortBy lf 145 lb [.slice (some ⟨r, 0, none⟩) n cap, typeHandle Try.prog e] n lt μ (fun d => RowV h0 r ty rest (d.map enc)) (PermIn 0 n d0) where
 max := hmax
 size hV := hV.1.trans hn
 sw hV hi hj := permIn_trans _ _ _ _ _ hV (swp_permIn _ _ _ _ _ (Nat.zero_le _) hi (Nat.zero_le _) hj (by rw [hV.1, hn]; exact Nat.le_refl _))
 dom {d d' b} _ _ hb := by
  simp only [RowV, Mem.set_get] at hb ⊢
  split at hb
  ·cases hb
  ·rename_i e; rw [if_neg e]; exact hb
 less hle hV hi hj := less hle hV hi hj
 swap {μ d i j} hle hV hi hj := by
  have hs : d.size = n := hV.1.trans hn
  have := swap9_spec (μ := μ) (h0 := h0) (r := r) (ty := ty) (rest := rest) (cap := cap) hti h1 (d := d.map enc) (hE.perm (by simp [hn]) (permIn_map hn hV)) (by simpa using hs) hi hj
  rwa [← swp_map (by omega) (by omega)] at this
end
section
variable {μ h0 : Mem} {r : Nat} {ty : TypeId} {rest : List Value} {es : Nat}
theorem idxV {n : Nat} {i : Int} {K : Addr → List Value → Prop} {K' : Addr → Prop} (k : Nat) (e : i = k) (hk : k < n) (h : K' ⟨r, k * es, none⟩) : elemVC μ (some ⟨r, 0, none⟩) n es i K K' := by
 subst e
 refine ptr_intro ⟨r, 0, none⟩ rfl (by omega) (by omega) ?_
 have : (⟨r, 0, none⟩ : Addr).add ((k : Int).toNat * es) = ⟨r, k * es, none⟩ := by rw [Addr.add_lit']; simp
 rw [this]; exact h
theorem rdV {d : Array Value} (hE : Els es d) {i c : Nat} {v : Value} {K : List Value → Prop} (hi : i < d.size) (hv : (vcells d[i]!)[c]? = some v) (h : K [v]) : extVC μ (RowV h0 r ty rest d) ((⟨r, i * es, none⟩ : Addr).add c) 1 K :=
 oIn [v] rfl (fun j x hx => by
  match j, hx with
  | 0, hx =>
   cases hx
   rw [Addr.add_lit', Addr.add_lit', Nat.add_zero]
   exact RowV.cell hE hi hv) h
end
end Go.Vx
namespace Go.Vx
open Go.Proofs Classical
open Go.Sort
open Go.Extern Go.Extern.Rtype Go.RowKit Go.Lib
section
variable {μ h0 : Mem} {lf sf : FuncId} {lb sb : List Value} {n : Nat}
theorem pdqsortF_tiny (hn : n ≤ 1) {limit : Int} : SpecH Try.prog 121 [fdata lf sf lb sb, .int .i64 0, .int .i64 n, .int .i64 limit] μ h0 fun v μ' h' => v = .tuple #[] ∧ μ' = μ ∧ h' = h0 := by
 refine SpecH.mk [] Try.func121 (by kernel_rfl) ?_
 intro r1
 refine lIn (fun _ : Unit => True)
  (fun _ => ⟨[(1, .val (.int .i64 0)), (2, .val (.int .i64 n)), (3, .val (.int .i64 limit)), (4, .loc 0 r1 0), (8, .val (.bool true)), (9, .val (.bool true))], fblk r1 lf sf lb sb, 1, μ, h0⟩) (fun _ => 0)
  () trivial (fun _ => ⟨rfl, rfl⟩) ⟨⟨rfl, rfl, rfl, rfl, rfl, rfl, trivial⟩, ⟨rfl, trivial⟩, rfl, rfl⟩ ?_
 intro _ _
 refine nEq (x := (n : Int)) (by rw [wrap64 (by omega) (by omega)]; omega) ?_
 refine ifd (fun h12 => ?_) (fun h12 => by omega)
 refine cOw (insertionSortF_tiny hn) fun v μ' h' hle' hap hR => ?_
 obtain ⟨rfl, e1, rfl⟩ := hR
 obtain rfl := e1.symm
 exact rPl ⟨rfl, rfl, rfl⟩
end
section
variable {α : Type} [Inhabited α] {enc : α → Value} {μ h0 : Mem} {r : Nat} {ty t e : TypeId} {i ie : TypeInfo} {ke : Nat} {ti : TI} {rest : List Value} {d0 : Array α} {n cap : Nat} {lf : FuncId} {lb : List Value} {lt : α → α → Bool}
theorem SortSlice_spec (T : SlTy t e i ie ke) (hti : TIok Try.prog e ti) (h1 : ti.agg = false → ti.size = 1) (hE : Els ti.size (d0.map enc)) (hn : d0.size = n) (hmax : n ≤ 1000000000000) (hO : SWO lt)
  (less : ∀ {μ' : Mem} {d : Array α} {i j : Nat}, μ.Le μ' → PermIn 0 n d0 d → i < n → j < n → SpecH Try.prog lf (.int .i64 i :: .int .i64 j :: lb) μ' (RowV h0 r ty rest (d.map enc)) fun v μ'' h' => v = .bool (lt d[i]! d[j]!) ∧ μ'' = μ' ∧ h' = RowV h0 r ty rest (d.map enc)) :
  SpecH Try.prog 78 [.iface t (.slice (some ⟨r, 0, none⟩) n cap), .func (.func lf) #[] lb.toArray] μ (RowV h0 r ty rest (d0.map enc)) fun v _μ' h' => v = .tuple #[] ∧ ∃ d', PermIn 0 n d0 d' ∧ SortedIn lt 0 n d' ∧ h' = RowV h0 r ty rest (d'.map enc) := by
 refine SpecH.mk [] Try.func78 (by kernel_rfl) ?_
 refine cPl (valueOf_spec T _ _ _) fun v μ1 hle1 hR => ?_
 obtain ⟨rv, rfl, hrv⟩ := hR
 intro r4
 have w_ := swapper_spec (μ := μ1) T (some ⟨r, 0, none⟩) (n := n) cap
 obtain ⟨k, bs, hk, hsw⟩ := w_
 refine cGv hsw ?_
 refine cGv (valueLen_spec T hrv) ?_
 refine nEq (x := (n : Int)) (by
  show (n : Int) % 18446744073709551616 = _
  omega) ?_
 refine cGv (Len_spec (by omega)) ?_
 have hL : bitsLen n ≤ 40 := (bitsLen_le_iff n 40).2 (by omega)
 by_cases h2 : 2 ≤ n
 ·have w_ := hk h2
  obtain ⟨rfl, rfl⟩ := w_
  refine cOw (pdqsortF_spec (SortBy.row (cap := cap) hti h1 hE hn hmax less) hO (n + 1) 0 n (bitsLen n) d0 _ (by omega) (by omega) (Nat.le_refl _) (permIn_refl _ _ _) hle1 (by omega) (.inl rfl)) fun v μ' h' hle hap hR => ?_
  obtain ⟨rfl, d', p1, p2, rfl, _⟩ := hR
  exact rPl ⟨rfl, d', p1, p2, rfl⟩
 ·refine cOw (pdqsortF_tiny (by omega)) fun v μ' h' hle hap hR => ?_
  obtain ⟨rfl, e1, rfl⟩ := hR
  exact rPl ⟨rfl, d0, permIn_refl _ _ _, fun a b _ h3 h4 => by omega, rfl⟩
end
end Go.Vx
namespace Go.Vx
open Go.Proofs Classical
open Go.Sort
structure Prs {X : Type} (es : Nat) (f : X → D) (ps : List (X × Value)) (g : Mem) : Prop where
 own : OwnRows es (ps.map fun p => f p.1) (ps.map Prod.snd) g
 size : ∀ p ∈ ps, (vcells p.2).length = es ∧ ∀ u ∈ vcells p.2, u.oneCell' = true
section
variable {X : Type} {es : Nat} {f : X → D} {g : Mem}
theorem Prs.uncons {p : X × Value} {ps : List (X × Value)} (h : Prs es f (p :: ps) g) : ∃ g1 g2, Parts g g1 g2 ∧ Own (f p.1) g1 (vcells p.2) ∧ (f p.1).n = es ∧ Prs es f ps g2 := by
 obtain ⟨⟨ho, hs, hl⟩, hz⟩ := h
 simp only [List.map_cons, List.flatMap_cons] at ho
 obtain ⟨c1, c2, g1, g2, e, hp, h1, h2⟩ := ho
 have hn : (f p.1).n = es := hs _ (by simp)
 have hz0 := (hz p (by simp)).1
 have := List.append_inj e (by rw [h1.len, hn, hz0])
 obtain ⟨rfl, rfl⟩ := this
 exact ⟨g1, g2, hp, h1, hn, ⟨h2, fun x hx => hs x (by simp only [List.map_cons]; exact List.mem_cons_of_mem _ hx), by simp⟩, fun q hq => hz q (List.mem_cons_of_mem _ hq)⟩
theorem Prs.cons {p : X × Value} {ps : List (X × Value)} {g1 g2 : Mem} (hp : Parts g g1 g2) (h1 : Own (f p.1) g1 (vcells p.2)) (hn : (f p.1).n = es) (hz : (vcells p.2).length = es ∧ ∀ u ∈ vcells p.2, u.oneCell' = true) (h : Prs es f ps g2) : Prs es f (p :: ps) g := by
 refine ⟨⟨?_, ?_, by simp⟩, ?_⟩
 ·simp only [List.map_cons, List.flatMap_cons]
  exact OwnS.cons hp h1 h.own.own
 ·intro x hx
  simp only [List.map_cons, List.mem_cons] at hx
  rcases hx with rfl | hx
  ·exact hn
  ·exact h.own.size x hx
 ·intro q hq
  rcases List.mem_cons.1 hq with rfl | hq
  ·exact hz
  ·exact h.size q hq
theorem Prs.perm {ps ps' : List (X × Value)} (h : ps.Perm ps') : ∀ {g : Mem}, Prs es f ps g → Prs es f ps' g := by
 induction h with
 | nil => exact fun h => h
 | cons p _ ih =>
  intro g h
  obtain ⟨g1, g2, hp, h1, hn, h2⟩ := h.uncons
  exact Prs.cons hp h1 hn (h.size _ (by simp)) (ih h2)
 | swap p q l =>
  intro g h
  obtain ⟨g1, k, hp, h1, hn, h2⟩ := h.uncons
  obtain ⟨g2, g3, hq, h3, hn2, h4⟩ := h2.uncons
  have w_ := Parts.assoc hp hq.symm
  obtain ⟨m, hm1, hm2⟩ := w_
  exact Prs.cons hm2.symm h3 hn2 (h.size _ (by simp)) (Prs.cons hm1 h1 hn (h.size _ (by simp)) h4)
 | trans _ _ ih1 ih2 => exact fun h => ih2 (ih1 h)
theorem Prs.at : ∀ {ps : List (X × Value)} {g : Mem}, Prs es f ps g → ∀ p ∈ ps, ∃ g' : Mem, g'.Le g ∧ Own (f p.1) g' (vcells p.2)
 | [], _, _, p, hp => by simp at hp
 | q :: ps, g, h, p, hp => by
  obtain ⟨g1, g2, hpp, h1, _, h2⟩ := h.uncons
  rcases List.mem_cons.1 hp with rfl | hp
  ·exact ⟨g1, hpp.left, h1⟩
  ·have w_ := Prs.at h2 p hp
   obtain ⟨g', h3, h4⟩ := w_
   exact ⟨g', h3.trans hpp.right, h4⟩
end
section
variable {X : Type} {es : Nat} {f : X → D}
theorem Prs.nil : Prs es f [] Mem.nil := ⟨OwnRows.nil es, fun p hp => by simp at hp⟩
theorem Prs.sub {ps ps' : List (X × Value)} (h : ps'.Sublist ps) : ∀ {g : Mem}, Prs es f ps g → ∃ g' : Mem, g'.Le g ∧ Prs es f ps' g' := by
 induction h with
 | slnil => exact fun {g} h => ⟨g, Mem.Le.refl _, h⟩
 | cons p _ ih =>
  intro g h
  obtain ⟨g1, g2, hp, h1, hn, h2⟩ := h.uncons
  obtain ⟨g', h3, h4⟩ := ih h2
  exact ⟨g', h3.trans hp.right, h4⟩
 | cons_cons p _ ih =>
  intro g h
  obtain ⟨g1, g2, hp, h1, hn, h2⟩ := h.uncons
  obtain ⟨g', h3, h4⟩ := ih h2
  have ha : Apart g1 g' := fun b hb => by
   have := hp.apart b hb
   cases e : g' b with
   | none => rfl
   | some o => rw [h3 b o e] at this; cases this
  exact ⟨g1.join g', join_le hp.left (h3.trans hp.right), Prs.cons (Parts.join ha) h1 hn (h.size _ (by simp)) h4⟩
end
end Go.Vx
namespace Go.Vx
open Go.Proofs Classical
open Go.Sort
noncomputable instance : Inhabited B := ⟨⟨0, .nil⟩⟩
section
variable {μ h0 g : Mem} {r : Nat} {ty : TypeId} {rest : List Value}
end
end Go.Vx
namespace Go.Vx
open Go.Proofs Classical
open Go.Sort
def AscB (l : List B) : Prop := l.Pairwise fun a b => a.var < b.var
theorem Srt.asc {bs : List B} (h : Srt bs) : AscB bs := by
 rw [AscB, List.pairwise_iff_getElem]
 intro i j hi hj hij
 exact h i j _ _ hij (by simp) (by simp)
theorem AscB.srt {bs : List B} (h : AscB bs) : Srt bs := fun i j b c hij hb hc => by
 rw [AscB, List.pairwise_iff_getElem] at h
 have w_ := List.getElem?_eq_some_iff.1 hb
 obtain ⟨hi, rfl⟩ := w_
 have w_ := List.getElem?_eq_some_iff.1 hc
 obtain ⟨hj, rfl⟩ := w_
 exact h i j hi hj hij
theorem AscB.uniq {a b : B} {l : List B} (h : AscB l) (ha : a ∈ l) (hb : b ∈ l) (e : a.var = b.var) : a = b := by
 have w_ := List.mem_iff_getElem?.1 ha
 obtain ⟨i, hi⟩ := w_
 have w_ := List.mem_iff_getElem?.1 hb
 obtain ⟨j, hj⟩ := w_
 rcases Nat.lt_trichotomy i j with h1 | h1 | h1
 ·have := h.srt i j _ _ h1 hi hj; omega
 ·subst h1; rw [hi] at hj; cases hj; rfl
 ·have := h.srt j i _ _ h1 hj hi; omega
theorem AscB.nodup {l : List B} (h : AscB l) : (l.map B.var).Nodup := by
 rw [List.Nodup, List.pairwise_map]
 exact h.imp fun h => by omega
theorem AscB.of_le {l : List B} (h : l.Pairwise fun a b => a.var ≤ b.var) (hn : (l.map B.var).Nodup) : AscB l := by
 rw [List.Nodup, List.pairwise_map] at hn
 exact h.and hn |>.imp fun ⟨h1, h2⟩ => by omega
theorem T.isVar {x : T} {n : Int} : (x.tm.kind = 1 ∧ x.tm.num = n) ↔ x = .var n := by
 cases x <;> simp [T.tm, Tm.kind, Tm.num]
section
variable {μ : Mem}
end
end Go.Vx
namespace Go.Vx
open Go.Proofs Classical
def GoodB (b : B) : Prop := b.to.good ∧ 0 ≤ b.var ∧ b.var ≤ 100000
theorem Vals.good {bs : List B} (h : Vals bs) : ∀ b ∈ bs, GoodB b := fun b hb => ⟨(h.tok b hb).1, h.var b hb⟩
theorem InsPos.asc {bs : List B} {b : B} {k : Nat} (h : AscB bs) (hk : InsPos bs b.var k) (hn : b.var ∉ bs.map B.var) : AscB (insAt bs b k) := by
 obtain ⟨hk0, hk1, hk2⟩ := hk
 unfold insAt AscB
 have h1 : ∀ a ∈ bs.take k, a.var < b.var := fun a ha => by
  have w_ := List.mem_iff_getElem?.1 ha
  obtain ⟨i, hi⟩ := w_
  have hik : i < k := by
   have := (List.getElem?_eq_some_iff.1 hi).1
   rw [List.length_take] at this; omega
  rw [List.getElem?_take_of_lt hik] at hi
  have hne : a.var ≠ b.var := fun e => hn (by rw [← e]; exact List.mem_map.2 ⟨a, mAt hi, rfl⟩)
  have w_ := aSo (l := bs) (i := k - 1) (by omega)
  obtain ⟨c, hc⟩ := w_
  have h2 := hk1 c hc (by omega)
  rcases Nat.lt_or_ge i (k - 1) with h3 | h3
  ·have := h.srt i (k - 1) a c h3 hi hc; omega
  ·obtain rfl : i = k - 1 := by omega
   rw [hi] at hc; cases hc; omega
 have h2 : ∀ a ∈ bs.drop k, b.var < a.var := fun a ha => by
  have w_ := List.mem_iff_getElem?.1 ha
  obtain ⟨i, hi⟩ := w_
  rw [List.getElem?_drop] at hi
  exact hk2 (k + i) a (by omega) hi
 rw [List.pairwise_append, List.pairwise_append]
 refine ⟨h.sublist (List.take_sublist _ _), ⟨List.pairwise_singleton _ _, h.sublist (List.drop_sublist _ _), fun a ha c hc => ?_⟩, fun a ha c hc => ?_⟩
 ·rw [List.mem_singleton] at ha; subst ha; exact h2 c hc
 ·rcases List.mem_append.1 hc with hc | hc
  ·rw [List.mem_singleton] at hc; subst hc; exact h1 a ha
  ·have := h1 a ha; have := h2 c hc; omega
section
variable {μ : Mem}
set_option maxHeartbeats 4000000 in
end
end Go.Vx
namespace Go.Vx
open Go.Proofs Classical
open Go.Sort
def kokAt (l : List VK) (i : Nat) (k : VK) : Prop := (0 ≤ k.var ∧ k.var ≤ 100000) ∧ (k.kind = 2 ∨ k.kind = 3) ∧ ∀ j c, j + 1 = i → l[j]? = some c → c.var < k.var
def kindsOk (l : List VK) : Prop := ∀ i k, l[i]? = some k → kokAt l i k
def AscK (l : List VK) : Prop := l.Pairwise fun a b => a.var < b.var
def GoodK (k : VK) : Prop := (0 ≤ k.var ∧ k.var ≤ 100000) ∧ (k.kind = 2 ∨ k.kind = 3)
theorem AscK.at {l : List VK} (h : AscK l) : ∀ (i j : Nat) b c, i < j → l[i]? = some b → l[j]? = some c → b.var < c.var := fun i j b c hij hb hc => by
 rw [AscK, List.pairwise_iff_getElem] at h
 have w_ := List.getElem?_eq_some_iff.1 hb
 obtain ⟨hi, rfl⟩ := w_
 have w_ := List.getElem?_eq_some_iff.1 hc
 obtain ⟨hj, rfl⟩ := w_
 exact h i j hi hj hij
theorem AscK.of_at {l : List VK} (h : ∀ (i j : Nat) b c, i < j → l[i]? = some b → l[j]? = some c → b.var < c.var) : AscK l := by
 rw [AscK, List.pairwise_iff_getElem]
 intro i j hi hj hij
 exact h i j _ _ hij (by simp) (by simp)
theorem kindsOk.asc {l : List VK} (h : kindsOk l) : AscK l := AscK.of_at fun i j b c hij hb hc => by
 induction j generalizing c with
 | zero => omega
 | succ j ih =>
  have hj : j < l.length := by have := (List.getElem?_eq_some_iff.1 hc).1; omega
  have w_ := aSo hj
  obtain ⟨d, hd⟩ := w_
  have h1 := (h (j + 1) c hc).2.2 j d rfl hd
  rcases Nat.lt_or_ge i j with h2 | h2
  ·have := ih d h2 hd; omega
  ·obtain rfl : i = j := by omega
   rw [hb] at hd; cases hd; exact h1
theorem kindsOk_iff (l : List VK) : kindsOk l ↔ AscK l ∧ ∀ k ∈ l, GoodK k := by
 constructor
 ·intro h
  refine ⟨h.asc, fun k hk => ?_⟩
  have w_ := List.mem_iff_getElem?.1 hk
  obtain ⟨i, hi⟩ := w_
  exact ⟨(h i k hi).1, (h i k hi).2.1⟩
 ·rintro ⟨h1, h2⟩ i k hk
  have := h2 k (mAt hk)
  exact ⟨this.1, this.2, fun j c hj hc => h1.at j i c k (by omega) hc hk⟩
theorem AscK.uniq {a b : VK} {l : List VK} (h : AscK l) (ha : a ∈ l) (hb : b ∈ l) (e : a.var = b.var) : a = b := by
 have w_ := List.mem_iff_getElem?.1 ha
 obtain ⟨i, hi⟩ := w_
 have w_ := List.mem_iff_getElem?.1 hb
 obtain ⟨j, hj⟩ := w_
 rcases Nat.lt_trichotomy i j with h1 | h1 | h1
 ·have := h.at i j _ _ h1 hi hj; omega
 ·subst h1; rw [hi] at hj; cases hj; rfl
 ·have := h.at j i _ _ h1 hj hi; omega
noncomputable def sortK (l : List VK) : List VK := l.mergeSort fun a b => decide (a.var ≤ b.var)
theorem sortK_uniq {s l : List VK} (hp : s.Perm l) (hs : AscK s) : s = sortK l := by
 have h2 : (sortK l).Perm s := (List.mergeSort_perm l _).trans hp.symm
 refine List.Perm.eq_of_pairwise (le := fun a b : VK => a.var ≤ b.var) (fun a b ha hb h3 h4 => ?_) (hs.imp fun h => by omega) ?_ h2.symm
 ·exact hs.uniq ha (h2.mem_iff.1 hb) (by omega)
 ·have := List.pairwise_mergeSort (le := fun a b : VK => decide (a.var ≤ b.var)) (fun a b c h1 h2 => by simp only [decide_eq_true_eq] at *; omega) (fun a b => by simp only [Bool.or_eq_true, decide_eq_true_eq]; omega) l
  exact this.imp fun h => by simpa using h
theorem AscK.nodup {l : List VK} (h : AscK l) : (l.map VK.var).Nodup := by
 rw [List.Nodup, List.pairwise_map]
 exact h.imp fun h => by omega
theorem AscK.of_le {l : List VK} (h : l.Pairwise fun a b => a.var ≤ b.var) (hn : (l.map VK.var).Nodup) : AscK l := by
 rw [List.Nodup, List.pairwise_map] at hn
 exact h.and hn |>.imp fun ⟨h1, h2⟩ => by omega
theorem kinds_len {l : List VK} (h : kindsOk l) : l.length ≤ 100001 := by
 have h1 := h.asc.nodup
 have h2 := ((kindsOk_iff l).1 h).2
 have := nodup_range (N := 100001) h1 fun n hn => by
  have w_ := List.mem_map.1 hn
  obtain ⟨k, hk, rfl⟩ := w_
  have := (h2 k hk).1
  omega
 simpa using this
noncomputable def lookK : List VK → Int → Option Int
 | [], _ => none
 | c :: r, n => if c.var = n then some c.kind else lookK r n
theorem lookK_none : ∀ {l : List VK} {n : Int}, (∀ c ∈ l, c.var ≠ n) → lookK l n = none
 | [], _, _ => rfl
 | c :: r, n, h => by rw [lookK, if_neg (h c (by simp)), lookK_none fun x hx => h x (by simp [hx])]
theorem lookK_at : ∀ {l : List VK} {n : Int} {i : Nat} {c : VK}, (∀ j d, j < i → l[j]? = some d → d.var ≠ n) → l[i]? = some c → c.var = n → lookK l n = some c.kind
 | [], _, _, _, _, h, _ => by simp at h
 | d :: r, n, 0, c, _, h, e => by
  simp only [List.getElem?_cons_zero, Option.some.injEq] at h
  subst h; rw [lookK, if_pos e]
 | d :: r, n, i + 1, c, hn, h, e => by
  rw [lookK, if_neg (hn 0 d (by omega) rfl)]
  exact lookK_at (i := i) (fun j x hj hx => hn (j + 1) x (by omega) (by simpa using hx)) (by simpa using h) e
theorem lookK_none_iff : ∀ {l : List VK} {n : Int}, lookK l n = none → ∀ c ∈ l, c.var ≠ n
 | [], _, _, c, hc => by simp at hc
 | d :: r, n, h, c, hc => by
  rw [lookK] at h
  split at h
  ·cases h
  ·rename_i e
   rcases List.mem_cons.1 hc with rfl | hc
   ·exact e
   ·exact lookK_none_iff h c hc
noncomputable def addK1 (l : List VK) (x : T) (k : Int) : Option (List VK) :=
 if x.tm.kind = 1 then (match lookK l x.tm.num with
  | some c => if c = k then some l else none
  | none => some (sortK (l ++ [⟨x.tm.num, k⟩])))
 else if x.tm.kind = k then some l else none
theorem addK1_ok {l l' : List VK} {x : T} {k : Int} (h : kindsOk l) (hx : x.good) (hk : k = 2 ∨ k = 3) (e : addK1 l x k = some l') : kindsOk l' ∧ ((∃ y, l'.Perm (l ++ [y])) ∨ l' = l) := by
 unfold addK1 at e
 split at e
 ·rename_i h1
  split at e
  ·split at e
   ·cases e; exact ⟨h, .inr rfl⟩
   ·cases e
  ·rename_i hn
   cases e
   have hnum : 0 ≤ x.tm.num ∧ x.tm.num ≤ 100000 := by
    have := T.isVar.1 ⟨h1, (rfl : x.tm.num = x.tm.num)⟩
    rw [this] at hx; exact hx
   have hp : (sortK (l ++ [⟨x.tm.num, k⟩])).Perm (l ++ [⟨x.tm.num, k⟩]) := List.mergeSort_perm _ _
   have w_ := (kindsOk_iff l).1 h
   obtain ⟨ha, hg⟩ := w_
   refine ⟨(kindsOk_iff _).2 ⟨AscK.of_le ?_ ((hp.map _).nodup_iff.2 ?_), fun c hc => ?_⟩, .inl ⟨_, hp⟩⟩
   ·have := List.pairwise_mergeSort (le := fun a b : VK => decide (a.var ≤ b.var)) (fun a b c h1 h2 => by simp only [decide_eq_true_eq] at *; omega) (fun a b => by simp only [Bool.or_eq_true, decide_eq_true_eq]; omega) (l ++ [⟨x.tm.num, k⟩])
    exact this.imp fun h => by simpa using h
   ·rw [List.map_append, List.nodup_append]
    refine ⟨ha.nodup, by simp, fun a ha b hb e => ?_⟩
    have w_ := List.mem_map.1 ha
    obtain ⟨c, hc, rfl⟩ := w_
    simp only [List.map_cons, List.map_nil, List.mem_singleton] at hb
    exact lookK_none_iff hn c hc (e.trans hb)
   ·rcases List.mem_append.1 (hp.mem_iff.1 hc) with hc | hc
    ·exact hg c hc
    ·rw [List.mem_singleton] at hc; subst hc; exact ⟨hnum, hk⟩
 ·split at e
  ·cases e; exact ⟨h, .inr rfl⟩
  ·cases e
noncomputable def addK (s : List Bd) (l : List VK) (t : Tm) (k : Int) : Option (List VK) :=
 if substOk s ∧ t.Ok ∧ kindsOk l ∧ (k = 2 ∨ k = 3) then (fit (t.toT.subst (sub (s.map Bd.b)))).bind fun x => addK1 l x k else none
def optVK (P : List VK → Value → Prop) (o : Option (List VK)) (v : Value) : Prop := match o with
 | some l => ∃ tv, v = .tuple #[tv, .bool true] ∧ P l tv
 | none => v = .tuple #[.slice none 0 0, .bool false]
section
variable {μ : Mem}
theorem impl_KindsOk_spec {l : List VK} {base : Option Addr} {cap : Nat} (hsl : Sl μ 2 base l.length (l.map VK.d)) : Gives Try.prog 29 [.slice base l.length cap] μ (.bool (decide (kindsOk l))) := by
 have hn := maxLen_le hsl.max
 refine Spec.mk Try.func29 (by kernel_rfl) ?_
 refine lIn (fun i : Nat => i ≤ l.length ∧ ∀ j k, j < i → l[j]? = some k → kokAt l j k) (fun i => ⟨[(0, .val (.slice base l.length cap)), (5, .val (.slice base l.length cap)), (6, .val (.int .i64 l.length)), (7, .val (.int .i64 i))], [], 0, μ, Mem.nil⟩) (fun i => l.length - i)
  0 ⟨by omega, fun j k hj => by omega⟩ (fun i => ⟨rfl, rfl⟩) ⟨⟨rfl, rfl, rfl, rfl, trivial⟩, trivial, rfl, rfl⟩ ?_
 rintro i ⟨hi, hall⟩
 refine ifd (fun h => ?_) (fun h => ?_)
 rotate_left
 ·obtain rfl : i = l.length := by omega
  exact rGv (isT fun j k hk => hall j k (List.getElem?_eq_some_iff.1 hk).1 hk) rfl
 have w_ := aSo (l := l) (i := i) (by omega)
 obtain ⟨x, hx⟩ := w_
 have w_ := VK.elem hsl hx
 obtain ⟨ad, p, hel, hr⟩ := w_
 have bad : ¬ kokAt l i x → Value.bool false = .bool (decide (kindsOk l)) := fun k => isF fun hv => k (hv i x hx)
 have next : kokAt l i x → ∀ j k, j < i + 1 → l[j]? = some k → kokAt l j k := fun h0 j k hj hk => by
  rcases Nat.lt_or_ge j i with h6 | h6
  ·exact hall j k h6 hk
  ·obtain rfl : j = i := by omega
   rw [hx] at hk; cases hk; exact h0
 refine eIn hel ?_
 intro r
 refine ifd (fun h1 => rGv (bad fun k => by have := k.1.1; omega) rfl) (fun h1 => ?_)
 refine ifd (fun h2 => rGv (bad fun k => by have := k.1.2; omega) rfl) (fun h2 => ?_)
 refine ifnd (fun h5 => ?_) (fun h5 => ?_)
 ·refine ifnd (fun h6 => rGv (bad fun k => by have := k.2.1; omega) rfl) (fun h6 => ?_)
  refine ifd (fun h0 => ?_) (fun h0 => ?_)
  ·have w_ := aSo (l := l) (i := i - 1) (by omega)
   obtain ⟨c, hc⟩ := w_
   have w_ := VK.elem hsl hc
   obtain ⟨ad2, p2, hel2, _⟩ := w_
   have hprev : kokAt l i x → c.var < x.var := fun k => k.2.2 (i - 1) c (by omega) hc
   refine nEq (x := ((i - 1 : Nat) : Int)) (by rw [wrap64 (by omega) (by omega)]; omega) ?_
   refine eIn hel2 ?_
   refine ifd (fun h1 => rGv (bad fun k => by have := hprev k; omega) rfl) (fun h4 => ?_)
   have hlt : ∀ j c', j + 1 = i → l[j]? = some c' → c'.var < x.var := fun j c' hj hc' => by
    have e : j = i - 1 := by omega
    rw [e, hc] at hc'
    cases hc'; omega
   refine num64 (by omega) (by omega) ⟨i + 1, ⟨by omega, next ⟨⟨by omega, by omega⟩, by omega, hlt⟩⟩, by omega, ⟨⟨rfl, rfl, rfl, rfl, trivial⟩, trivial, rfl, rfl⟩⟩
  ·have hlt : ∀ j c', j + 1 = i → l[j]? = some c' → c'.var < x.var := fun j c' hj _ => by omega
   refine num64 (by omega) (by omega) ⟨i + 1, ⟨by omega, next ⟨⟨by omega, by omega⟩, by omega, hlt⟩⟩, by omega, ⟨⟨rfl, rfl, rfl, rfl, trivial⟩, trivial, rfl, rfl⟩⟩
 ·refine ifd (fun h0 => ?_) (fun h0 => ?_)
  ·have w_ := aSo (l := l) (i := i - 1) (by omega)
   obtain ⟨c, hc⟩ := w_
   have w_ := VK.elem hsl hc
   obtain ⟨ad2, p2, hel2, _⟩ := w_
   have hprev : kokAt l i x → c.var < x.var := fun k => k.2.2 (i - 1) c (by omega) hc
   refine nEq (x := ((i - 1 : Nat) : Int)) (by rw [wrap64 (by omega) (by omega)]; omega) ?_
   refine eIn hel2 ?_
   refine ifd (fun h1 => rGv (bad fun k => by have := hprev k; omega) rfl) (fun h4 => ?_)
   have hlt : ∀ j c', j + 1 = i → l[j]? = some c' → c'.var < x.var := fun j c' hj hc' => by
    have e : j = i - 1 := by omega
    rw [e, hc] at hc'
    cases hc'; omega
   refine num64 (by omega) (by omega) ⟨i + 1, ⟨by omega, next ⟨⟨by omega, by omega⟩, by omega, hlt⟩⟩, by omega, ⟨⟨rfl, rfl, rfl, rfl, trivial⟩, trivial, rfl, rfl⟩⟩
  ·have hlt : ∀ j c', j + 1 = i → l[j]? = some c' → c'.var < x.var := fun j c' hj _ => by omega
   refine num64 (by omega) (by omega) ⟨i + 1, ⟨by omega, next ⟨⟨by omega, by omega⟩, by omega, hlt⟩⟩, by omega, ⟨⟨rfl, rfl, rfl, rfl, trivial⟩, trivial, rfl, rfl⟩⟩
end
end Go.Vx
namespace Go.Vx
open Go.Proofs Classical
open Go.Sort
def VK.v (k : VK) : Value := .agg #[.int .i64 k.var, .int .i64 k.kind]
noncomputable instance : Inhabited VK := ⟨⟨0, 0⟩⟩
theorem slVarKind : SlTy 47 53 Try.t47 Try.t53 25 := ⟨by kernel_rfl, by kernel_rfl, by kernel_rfl, by kernel_rfl, fun _ => by kernel_rfl, by kernel_rfl⟩
def ltK (a b : VK) : Bool := decide (a.var < b.var)
theorem swo_ltK : SWO ltK := ⟨fun x => by simp [ltK], fun x y z h1 h2 => by simp only [ltK, decide_eq_true_eq] at *; omega, fun x y z h1 h2 => by simp only [ltK, decide_eq_false_iff_not] at *; omega⟩
theorem vks_els (l : List VK) : ∀ y ∈ l.map VK.v, (vcells y).length = 2 ∧ ∀ u ∈ vcells y, u.oneCell' = true := fun y hy => by
 have w_ := List.mem_map.1 hy
 obtain ⟨k, _, rfl⟩ := w_
 refine ⟨rfl, fun u hu => ?_⟩
 simp only [VK.v, vcells, List.mem_cons, List.not_mem_nil, or_false] at hu
 rcases hu with rfl | rfl <;> rfl
theorem vks_own : ∀ l : List VK, OwnRows 2 (l.map VK.d) (l.map VK.v) Mem.nil
 | [] => OwnRows.nil 2
 | k :: l => by
  have w_ := vks_own l
  obtain ⟨h1, h2, h3⟩ := w_
  refine ⟨?_, fun x hx => ?_, by simp⟩
  ·simp only [List.map_cons, List.flatMap_cons]
   exact OwnS.cons (Parts.nil_left _) (by rw [VK.d_eq]; exact OwnS.int (OwnS.int OwnS.nil)) h1
  ·simp only [List.map_cons, List.mem_cons] at hx
   rcases hx with rfl | hx
   ·exact VK.d_n k
   ·exact h2 x hx
section
variable {μ : Mem}
theorem vks_rows : ∀ {l : List VK} {ys : List Value}, Rows μ 2 (l.map VK.d) ys → ys = l.map VK.v
 | [], _, h => by cases h; rfl
 | k :: l, _, h => by
  cases h with
  | cons h1 h2 h3 =>
   have w_ := VK.invV h1
   obtain ⟨_, e⟩ := w_
   rw [e, vks_rows h3]; rfl
theorem vks_fresh {μ1 h : Mem} {r c : Nat} {ty : TypeId} {l : List VK} (hb : RowO h r c ty 2 (l.map VK.v)) (hap : Apart μ1 h) (hle : μ.Le μ1) (hn : l.length ≤ 100000000) : Fresh μ (μ1.join h) (.sl 2 (l.map VK.d)) (.slice (some ⟨r, 0, none⟩) l.length c) := by
 obtain ⟨cs, hcell, hlen0, hcap, hone, hcs, htake⟩ := hb
 have hb2 : μ1 r = none := by
  cases e : μ1 r with
  | none => rfl
  | some o => have := hap r (by simp [e]); rw [hcell] at this; cases this
 have := Fresh.ofRow (μ := μ) (μ1 := μ1) (μ' := μ1.join h) (b := some r) (cap := c) (vks_own l) (fun _ _ h => nomatch h) (fun _ h => absurd rfl h) hle (Mem.le_join _ _) (fun r' e => by cases e; exact hb2)
  ⟨hlen0, hone, _, _, by rw [Mem.join_get, hb2]; exact hcell, by simpa using hcs, by simpa using htake⟩ (Nat.le_trans (m := 100000000) (by simpa using hn) (by decide))
 rwa [List.length_map] at this
end
section
variable {μ h0 : Mem} {r : Nat} {ty : TypeId} {rest : List Value}
theorem AddKind1_spec {rs n cap i j : Nat} {d : Array VK} (hs : h0 rs = some (.cells #[.slice (some ⟨r, 0, none⟩) n cap] 47 (0, 0))) (hne : rs ≠ r) (hn : d.size = n) (hi : i < n) (hj : j < n) :
  SpecH Try.prog 79 [.int .i64 i, .int .i64 j, .pointer (some ⟨rs, 0, none⟩)] μ (RowV h0 r ty rest (d.map VK.v)) fun v μ' h' => v = .bool (ltK d[i]! d[j]!) ∧ μ' = μ ∧ h' = RowV h0 r ty rest (d.map VK.v) := by
 have hv : ∀ k, k < n → (vcells (d.map VK.v)[k]!)[0]? = some (.int .i64 d[k]!.var) := fun k hk => by
  rw [map_get (by omega)]; rfl
 have hE : Els 2 (d.map VK.v) := fun x hx => vks_els d.toList x (by simpa using hx)
 have hrs : RowV h0 r ty rest (d.map VK.v) rs = some (.cells #[.slice (some ⟨r, 0, none⟩) n cap] 47 (0, 0)) := (Mem.set_ne hne).trans hs
 refine SpecH.mk [] Try.func79 (by kernel_rfl) ?_
 refine oIn [.slice (some ⟨r, 0, none⟩) n cap] rfl (box_at hrs) ?_
 refine idxV i rfl hi ?_
 refine rdV hE (by simpa [hn] using hi) (hv i hi) ?_
 refine oIn [.slice (some ⟨r, 0, none⟩) n cap] rfl (box_at hrs) ?_
 refine idxV j rfl hj ?_
 refine rdV hE (by simpa [hn] using hj) (hv j hj) ?_
 exact rPl ⟨rfl, rfl, rfl⟩
end
section
variable {μ : Mem}
set_option maxHeartbeats 4000000 in
theorem impl_AddKind_spec {s : List Bd} {l : List VK} {t : Tm} {v : Value} {k : Int} {base base2 : Option Addr} {cap cap2 : Nat} (hs : Sl μ 5 base s.length (s.map Bd.d)) (hl : RepV μ (.sl 2 (l.map VK.d)) (.slice base2 l.length cap2)) (ht : RepV μ t.d v) :
  Spec Try.prog 28 [.slice base s.length cap, .slice base2 l.length cap2, v, .int .i64 k] μ fun r μ' => optVK (fun y tv => Fresh μ μ' (.sl 2 (y.map VK.d)) tv) (addK s l t k) r := by
 have w_ := Tm.invV ht
 obtain ⟨pt, rfl⟩ := w_
 have hlm := hl
 have w_ := Rep.sl hlm
 obtain ⟨bq, cq, eq1, hslq⟩ := w_
 rw [List.length_map] at hslq eq1
 have w_ := Value.slice.inj eq1
 obtain ⟨rfl, _, rfl⟩ := w_
 refine Spec.mkO [44, 12] Try.func28 (by kernel_rfl) ?_
 intro r6
 refine cGv (impl_SubstOk_spec hs) ?_
 refine ifnd (fun h => rPl (by rw [addK, if_neg fun k => h k.1]; rfl)) (fun h1 => ?_)
 refine cGv (impl_TermOk_spec t ht) ?_
 refine ifnd (fun h => rPl (by rw [addK, if_neg fun k => h k.2.1]; rfl)) (fun h2 => ?_)
 refine cGv (impl_KindsOk_spec hslq) ?_
 refine ifnd (fun h => rPl (by rw [addK, if_neg fun k => h k.2.2.1]; rfl)) (fun hk => ?_)
 refine ifnd (fun h5 => ?_) (fun h5 => ?_)
 ·refine ifnd (fun h6 => rPl (by rw [addK, if_neg fun k => by have := k.2.2.2; omega]; rfl)) (fun h6 => ?_)
  have hkk : k = 2 ∨ k = 3 := .inr h6
  have hadd : addK s l t k = (fit (t.toT.subst (sub (s.map Bd.b)))).bind fun x => addK1 l x k := by rw [addK, if_pos ⟨h1, h2, hk, hkk⟩]
  rw [hadd]
  have hxg := fun x => appl_good (x := x) h1 h2
  clear hadd
  obtain ⟨x0, _, rfl⟩ := h2.lift
  obtain ⟨bs, rfl, hbs⟩ := h1.subst
  rw [List.length_map] at hs ⊢
  rw [T.toT_tm, B.map_b] at hxg ⊢
  have hlen := hbs.vals.len
  have hkl := kinds_len hk
  refine cPl (put_spec x0 hbs.vals.srt (by omega) hbs.vals.tok hs ht) fun v1 μ1 hle1 hR => ?_
  cases hf : fit (x0.subst (sub bs)) with
  | none =>
   rw [hf] at hR
   obtain rfl := hR
   intro r10
   refine iIn (fun _ => ?_) (fun h => nomatch h)
   exact rPl rfl
  | some x =>
   rw [hf] at hR
   rw [Option.bind_some]
   obtain ⟨tv, rfl, htv⟩ := hR
   have w_ := T.inv htv.rep
   obtain ⟨qb, qc, rfl, _⟩ := w_
   intro r10
   refine iIn (fun h => nomatch h) (fun _ => ?_)
   have w_ := Rep.srcAll (hl.mono hle1)
   obtain ⟨ys, hrows, hyl, hsrc⟩ := w_
   have w_ := vks_rows hrows
   obtain rfl := w_
   intro r44 hm44 ho44
   refine src_intro _ hsrc ?_
   refine app_intro [] rfl ⟨[], Mem.set_at _ _ _, by simp, by simp, by simp, rfl, rfl⟩ ?_ ?_ fun b1 c1 o1 hrow1 hor1 => ?_
   ·show (0 + _) * 16 ≤ _; simp; omega
   ·exact Nat.le_trans (m := 2000000000) (by simp; omega) (by decide)
   generalize hH1 : Mem.set (Mem.set _ r44 _) b1 o1 = H1
   have hB1 : RowO H1 b1 c1 53 2 (l.map VK.v) := by rw [← hH1]; exact hrow1
   have hap1 : Apart μ1 H1 := by
    rw [← hH1]
    refine ((apart_nil μ1).set hm44).set ?_
    rcases hor1 with rfl | h
    ·exact hm44
    ·exact h.2
   clear hrow1 hor1 hH1 hm44 ho44
   have hN : 0 + (l.map VK.v).length = l.length := by simp
   intro r12 hm12 ho12
   have hne : b1 ≠ r12 := fun e => by
    subst e
    obtain ⟨cs, h, _⟩ := hB1
    have : H1 b1 = none := ho12
    rw [h] at this; cases this
   refine sIn [.slice none 0 0] 47 (Mem.set_at _ _ _) rfl (Nat.le_refl _) ?_
   dsimp only at hm12 ho12
   generalize hH2 : Mem.set (Mem.set H1 r12 _) r12 _ = H
   have hB : RowO H b1 c1 53 2 (l.map VK.v) := by subst hH2; exact (hB1.set_ne hne).set_ne hne
   have hC : H r12 = some (.cells #[.slice (some ⟨b1, 0, none⟩) (0 + (l.map VK.v).length) c1] 47 (0, 0)) := by subst hH2; exact Mem.set_at _ _ _
   have hA : Apart μ1 H := by subst hH2; exact (hap1.set hm12).set hm12
   clear hH2 hB1 hap1 hm12 ho12
   refine ifnd (fun g1 => ?_) (fun g1 => ?_)
   ·refine ifnd (fun g2 => ?_) (fun g2 => ?_)
    ·refine ret_own _ Mem.nil (Parts.nil_right _) ?_
     rw [addK1, if_neg g1, if_neg g2]; rfl
    ·refine oIn [.slice (some ⟨b1, 0, none⟩) (0 + (l.map VK.v).length) c1] rfl (box_at hC) ?_
     refine ret_own _ Mem.nil (Parts.nil_right _) ?_
     rw [addK1, if_neg g1, if_pos g2]
     exact ⟨_, rfl, by rw [hN]; exact vks_fresh hB hA hle1 (by omega)⟩
   refine lIn (fun i : Nat => i ≤ l.length ∧ ∀ j c, j < i → l[j]? = some c → c.var ≠ x.tm.num)
    (fun i => ⟨[(3, .val (.int .i64 k)), (10, .loc 1 r10 0), (12, .val (.pointer (some ⟨r12, 0, none⟩))), (55, .val (.slice base2 l.length cap2)), (56, .val (.int .i64 l.length)), (57, .val (.int .i64 i))], [(1, some (.cells r10 [.val (.int .i64 x.tm.kind), .val (.int .i64 x.tm.num), .val (.string x.tm.name), .val (.slice qb x.args.length qc)] 27))], 2, μ1, H⟩) (fun i => l.length - i)
    0 ⟨by omega, fun j c hj => by omega⟩ (fun _ => ⟨rfl, rfl⟩) ⟨⟨rfl, rfl, rfl, rfl, rfl, rfl, trivial⟩, ⟨rfl, trivial⟩, rfl, rfl⟩ ?_
   rintro i ⟨hi, hno⟩
   refine ifd (fun hlt => ?_) (fun hlt => ?_)
   ·have w_ := aSo (l := l) (i := i) (by omega)
    obtain ⟨c, hc⟩ := w_
    have w_ := VK.elem (hslq.mono hle1) hc
    obtain ⟨ad, p, hel, _⟩ := w_
    refine eIn hel ?_
    intro r14
    refine ifd (fun g2 => ?_) (fun g2 => ?_)
    ·have hlook : lookK l x.tm.num = some c.kind := lookK_at (i := i) hno hc g2
     refine ifnd (fun g3 => ?_) (fun g3 => ?_)
     ·refine ret_own _ Mem.nil (Parts.nil_right _) ?_
      rw [addK1, if_pos g1, hlook]
      dsimp only
      rw [if_neg g3]; rfl
     ·refine oIn [.slice (some ⟨b1, 0, none⟩) (0 + (l.map VK.v).length) c1] rfl (box_at hC) ?_
      refine ret_own _ Mem.nil (Parts.nil_right _) ?_
      rw [addK1, if_pos g1, hlook]
      dsimp only
      rw [if_pos g3]
      exact ⟨_, rfl, by rw [hN]; exact vks_fresh hB hA hle1 (by omega)⟩
    ·refine num64 (by omega) (by omega) ⟨i + 1, ⟨by omega, fun j d hj hd => ?_⟩, by omega, ⟨⟨rfl, rfl, rfl, rfl, rfl, rfl, trivial⟩, ⟨rfl, trivial⟩, rfl, rfl⟩⟩
     rcases Nat.lt_or_ge j i with h6 | h6
     ·exact hno j d h6 hd
     ·obtain rfl : j = i := by omega
      rw [hc] at hd; cases hd; exact g2
   obtain rfl : i = l.length := by omega
   have hlook : lookK l x.tm.num = none := lookK_none fun d hd e => by
    have w_ := List.mem_iff_getElem?.1 hd
    obtain ⟨j, hj⟩ := w_
    exact hno j d (List.getElem?_eq_some_iff.1 hj).1 hj e
   have hfin : addK1 l x k = some (sortK (l ++ [⟨x.tm.num, k⟩])) := by rw [addK1, if_pos g1, hlook]
   have hok := (addK1_ok hk (hxg x hf) hkk hfin).1
   rw [hfin]
   generalize hy : (⟨x.tm.num, k⟩ : VK) = y at *
   refine oIn [.slice (some ⟨b1, 0, none⟩) (0 + (l.map VK.v).length) c1] rfl (box_at hC) ?_
   intro r77
   refine app_intro (l.map VK.v) (by simp) hB ?_ ?_ fun b2 c2 o2 hrow2 hor2 => ?_
   ·show (_ + 1) * 16 ≤ _; omega
   ·exact Nat.le_trans (m := 2000000000) (show _ + 1 ≤ _ by omega) (by decide)
   have hA2 : Apart μ1 (H.set b2 o2) := hA.set (apartB hB hA hor2)
   have hne2 : r12 ≠ b2 := fun e => by
    subst e
    rcases hor2 with e | ⟨e, _⟩
    ·exact hne e.symm
    ·have e : H r12 = none := e
     rw [hC] at e; cases e
   refine sIn [.slice (some ⟨b1, 0, none⟩) (0 + (l.map VK.v).length) c1] 47 ((Mem.set_ne hne2).trans hC) rfl (Nat.le_refl _) ?_
   have hrow3 : RowO (H.set b2 o2) b2 c2 53 2 ((l ++ [y]).map VK.v) := by
    subst hy
    rw [List.map_append]; exact hrow2
   obtain ⟨N2, hN2⟩ : ∃ N2, N2 = 0 + (l.map VK.v).length + 1 := ⟨_, rfl⟩
   generalize hH3 : Mem.set (Mem.set H b2 o2) r12 _ = H3
   have hB3 : RowO H3 b2 c2 53 2 ((l ++ [y]).map VK.v) := by subst hH3; exact hrow3.set_ne hne2.symm
   have hC3 : H3 r12 = some (.cells #[.slice (some ⟨b2, 0, none⟩) (0 + (l.map VK.v).length + 1) c2] 47 (0, 0)) := by subst hH3; exact Mem.set_at _ _ _
   have hA3 : Apart μ1 H3 := by
    subst hH3
    refine hA2.set ?_
    cases e : μ1 r12 with
    | none => rfl
    | some o => have := hA r12 (by simp [e]); rw [hC] at this; cases this
   clear hH3 hrow3 hA2 hrow2 hor2
   obtain ⟨cs, hcell, hlen0, hcap0, hone, hcs, htake⟩ := hB3
   obtain ⟨rest, rfl⟩ : ∃ rest, cs = ((l ++ [y]).map VK.v).flatMap vcells ++ rest := by
    refine ⟨cs.drop (((l ++ [y]).map VK.v).length * 2), ?_⟩
    conv => lhs; rw [← List.take_append_drop (((l ++ [y]).map VK.v).length * 2) cs, htake]
   obtain ⟨h0, hh0, hh1, hsplit⟩ : ∃ h0 : Mem, h0 b2 = none ∧ h0 r12 = H3 r12 ∧ H3 = RowV h0 b2 53 rest ((l ++ [y]).toArray.map VK.v) := by
    refine ⟨fun q => if q = b2 then none else H3 q, if_pos rfl, if_neg hne2, funext fun q => ?_⟩
    rw [RowV, Mem.set_get]
    by_cases e : q = b2
    ·subst e; rw [if_pos rfl, hcell]; simp
    ·rw [if_neg e, if_neg e]
   rw [hC3] at hh1
   have hC4 : RowV h0 b2 53 rest ((l ++ [y]).toArray.map VK.v) r12 = some (.cells #[.slice (some ⟨b2, 0, none⟩) (0 + (l.map VK.v).length + 1) c2] 47 (0, 0)) := (Mem.set_ne hne2).trans hh1
   clear hcell
   subst hsplit
   refine oIn [.slice (some ⟨b2, 0, none⟩) (0 + (l.map VK.v).length + 1) c2] rfl (box_at hC4) ?_
   have hsz : (l ++ [y]).toArray.size = 0 + (l.map VK.v).length + 1 := by simp
   have hE : Els 2 ((l ++ [y]).toArray.map VK.v) := fun z hz => vks_els (l ++ [y]) z (by simpa using hz)
   refine cOw (SortSlice_spec (lb := [.pointer (some ⟨r12, 0, none⟩)]) (enc := VK.v) slVarKind (ttok.get rfl) (fun h => nomatch h) hE hsz (by omega) swo_ltK fun {μ' d i j} _ hV hi hj => AddKind1_spec hh1 hne2 (hV.1.trans hsz) hi hj) fun v5 μ2 h2' hle2 hap2 hR5 => ?_
   obtain ⟨rfl, d', p1, p2, rfl⟩ := hR5
   have hC5 : RowV h0 b2 53 rest (d'.map VK.v) r12 = some (.cells #[.slice (some ⟨b2, 0, none⟩) (0 + (l.map VK.v).length + 1) c2] 47 (0, 0)) := (Mem.set_ne hne2).trans hh1
   refine oIn [.slice (some ⟨b2, 0, none⟩) (0 + (l.map VK.v).length + 1) c2] rfl (box_at hC5) ?_
   have hds : d'.size = 0 + (l.map VK.v).length + 1 := p1.1.trans hsz
   have hperm : d'.toList.Perm (l ++ [y]) := permIn_list hsz p1
   have hS : d'.toList = sortK (l ++ [y]) := by
    refine sortK_uniq hperm (AscK.of_le ?_ ((hperm.map _).nodup_iff.2 ?_))
    ·rw [List.pairwise_iff_getElem]
     intro a b' ha hb' hab
     have ha : a < d'.size := by simpa using ha
     have hb' : b' < d'.size := by simpa using hb'
     have := p2 a b' (Nat.zero_le _) hab (by omega)
     rw [getElem!_pos d' a (by omega), getElem!_pos d' b' (by omega)] at this
     simp only [ltK, decide_eq_false_iff_not] at this
     simp only [Array.getElem_toList]
     exact Int.not_lt.1 this
    ·rw [List.map_append, List.nodup_append]
     refine ⟨hk.asc.nodup, by simp, fun a ha b hb e => ?_⟩
     have w_ := List.mem_map.1 ha
     obtain ⟨c, hc, rfl⟩ := w_
     simp only [List.map_cons, List.map_nil, List.mem_singleton] at hb
     subst hy
     exact lookK_none_iff hlook c hc (e.trans hb)
   rw [← hS]
   refine ret_own _ Mem.nil (Parts.nil_right _) ?_
   refine ⟨_, rfl, ?_⟩
   have hdl : d'.toList.length = 0 + (l.map VK.v).length + 1 := by simpa using hds
   have hB6 : RowO (RowV h0 b2 53 rest (d'.map VK.v)) b2 c2 53 2 (d'.toList.map VK.v) := by
    have h5 : (((l ++ [y]).map VK.v).flatMap vcells).length = ((l ++ [y]).map VK.v).length * 2 := flat_len _ fun z hz => (vks_els _ z hz).1
    have h6 : ((d'.toList.map VK.v).flatMap vcells).length = (d'.toList.map VK.v).length * 2 := flat_len _ fun z hz => (vks_els _ z hz).1
    have h7 : (d'.toList.map VK.v).length = ((l ++ [y]).map VK.v).length := by
     rw [List.length_map, List.length_map]; exact hperm.length_eq
    refine ⟨(d'.toList.map VK.v).flatMap vcells ++ rest, by rw [RowV, Mem.set_at]; simp, by rw [h7]; exact hlen0, by rw [h7]; exact hcap0, vks_els _, ?_, ?_⟩
    ·rw [List.length_append] at hcs ⊢; omega
    ·rw [← h6, List.take_left]
   have F := vks_fresh (μ := μ) hB6 hap2 (hle1.trans hle2) (by rw [hdl]; omega)
   rw [hdl] at F
   exact F
 ·have hkk : k = 2 ∨ k = 3 := .inl h5
  have hadd : addK s l t k = (fit (t.toT.subst (sub (s.map Bd.b)))).bind fun x => addK1 l x k := by rw [addK, if_pos ⟨h1, h2, hk, hkk⟩]
  rw [hadd]
  have hxg := fun x => appl_good (x := x) h1 h2
  clear hadd
  obtain ⟨x0, _, rfl⟩ := h2.lift
  obtain ⟨bs, rfl, hbs⟩ := h1.subst
  rw [List.length_map] at hs ⊢
  rw [T.toT_tm, B.map_b] at hxg ⊢
  have hlen := hbs.vals.len
  have hkl := kinds_len hk
  refine cPl (put_spec x0 hbs.vals.srt (by omega) hbs.vals.tok hs ht) fun v1 μ1 hle1 hR => ?_
  cases hf : fit (x0.subst (sub bs)) with
  | none =>
   rw [hf] at hR
   obtain rfl := hR
   intro r10
   refine iIn (fun _ => ?_) (fun h => nomatch h)
   exact rPl rfl
  | some x =>
   rw [hf] at hR
   rw [Option.bind_some]
   obtain ⟨tv, rfl, htv⟩ := hR
   have w_ := T.inv htv.rep
   obtain ⟨qb, qc, rfl, _⟩ := w_
   intro r10
   refine iIn (fun h => nomatch h) (fun _ => ?_)
   have w_ := Rep.srcAll (hl.mono hle1)
   obtain ⟨ys, hrows, hyl, hsrc⟩ := w_
   have w_ := vks_rows hrows
   obtain rfl := w_
   intro r44 hm44 ho44
   refine src_intro _ hsrc ?_
   refine app_intro [] rfl ⟨[], Mem.set_at _ _ _, by simp, by simp, by simp, rfl, rfl⟩ ?_ ?_ fun b1 c1 o1 hrow1 hor1 => ?_
   ·show (0 + _) * 16 ≤ _; simp; omega
   ·exact Nat.le_trans (m := 2000000000) (by simp; omega) (by decide)
   generalize hH1 : Mem.set (Mem.set _ r44 _) b1 o1 = H1
   have hB1 : RowO H1 b1 c1 53 2 (l.map VK.v) := by rw [← hH1]; exact hrow1
   have hap1 : Apart μ1 H1 := by
    rw [← hH1]
    refine ((apart_nil μ1).set hm44).set ?_
    rcases hor1 with rfl | h
    ·exact hm44
    ·exact h.2
   clear hrow1 hor1 hH1 hm44 ho44
   have hN : 0 + (l.map VK.v).length = l.length := by simp
   intro r12 hm12 ho12
   have hne : b1 ≠ r12 := fun e => by
    subst e
    obtain ⟨cs, h, _⟩ := hB1
    have : H1 b1 = none := ho12
    rw [h] at this; cases this
   refine sIn [.slice none 0 0] 47 (Mem.set_at _ _ _) rfl (Nat.le_refl _) ?_
   dsimp only at hm12 ho12
   generalize hH2 : Mem.set (Mem.set H1 r12 _) r12 _ = H
   have hB : RowO H b1 c1 53 2 (l.map VK.v) := by subst hH2; exact (hB1.set_ne hne).set_ne hne
   have hC : H r12 = some (.cells #[.slice (some ⟨b1, 0, none⟩) (0 + (l.map VK.v).length) c1] 47 (0, 0)) := by subst hH2; exact Mem.set_at _ _ _
   have hA : Apart μ1 H := by subst hH2; exact (hap1.set hm12).set hm12
   clear hH2 hB1 hap1 hm12 ho12
   refine ifnd (fun g1 => ?_) (fun g1 => ?_)
   ·refine ifnd (fun g2 => ?_) (fun g2 => ?_)
    ·refine ret_own _ Mem.nil (Parts.nil_right _) ?_
     rw [addK1, if_neg g1, if_neg g2]; rfl
    ·refine oIn [.slice (some ⟨b1, 0, none⟩) (0 + (l.map VK.v).length) c1] rfl (box_at hC) ?_
     refine ret_own _ Mem.nil (Parts.nil_right _) ?_
     rw [addK1, if_neg g1, if_pos g2]
     exact ⟨_, rfl, by rw [hN]; exact vks_fresh hB hA hle1 (by omega)⟩
   refine lIn (fun i : Nat => i ≤ l.length ∧ ∀ j c, j < i → l[j]? = some c → c.var ≠ x.tm.num)
    (fun i => ⟨[(3, .val (.int .i64 k)), (10, .loc 1 r10 0), (12, .val (.pointer (some ⟨r12, 0, none⟩))), (55, .val (.slice base2 l.length cap2)), (56, .val (.int .i64 l.length)), (57, .val (.int .i64 i))], [(1, some (.cells r10 [.val (.int .i64 x.tm.kind), .val (.int .i64 x.tm.num), .val (.string x.tm.name), .val (.slice qb x.args.length qc)] 27))], 2, μ1, H⟩) (fun i => l.length - i)
    0 ⟨by omega, fun j c hj => by omega⟩ (fun _ => ⟨rfl, rfl⟩) ⟨⟨rfl, rfl, rfl, rfl, rfl, rfl, trivial⟩, ⟨rfl, trivial⟩, rfl, rfl⟩ ?_
   rintro i ⟨hi, hno⟩
   refine ifd (fun hlt => ?_) (fun hlt => ?_)
   ·have w_ := aSo (l := l) (i := i) (by omega)
    obtain ⟨c, hc⟩ := w_
    have w_ := VK.elem (hslq.mono hle1) hc
    obtain ⟨ad, p, hel, _⟩ := w_
    refine eIn hel ?_
    intro r14
    refine ifd (fun g2 => ?_) (fun g2 => ?_)
    ·have hlook : lookK l x.tm.num = some c.kind := lookK_at (i := i) hno hc g2
     refine ifnd (fun g3 => ?_) (fun g3 => ?_)
     ·refine ret_own _ Mem.nil (Parts.nil_right _) ?_
      rw [addK1, if_pos g1, hlook]
      dsimp only
      rw [if_neg g3]; rfl
     ·refine oIn [.slice (some ⟨b1, 0, none⟩) (0 + (l.map VK.v).length) c1] rfl (box_at hC) ?_
      refine ret_own _ Mem.nil (Parts.nil_right _) ?_
      rw [addK1, if_pos g1, hlook]
      dsimp only
      rw [if_pos g3]
      exact ⟨_, rfl, by rw [hN]; exact vks_fresh hB hA hle1 (by omega)⟩
    ·refine num64 (by omega) (by omega) ⟨i + 1, ⟨by omega, fun j d hj hd => ?_⟩, by omega, ⟨⟨rfl, rfl, rfl, rfl, rfl, rfl, trivial⟩, ⟨rfl, trivial⟩, rfl, rfl⟩⟩
     rcases Nat.lt_or_ge j i with h6 | h6
     ·exact hno j d h6 hd
     ·obtain rfl : j = i := by omega
      rw [hc] at hd; cases hd; exact g2
   obtain rfl : i = l.length := by omega
   have hlook : lookK l x.tm.num = none := lookK_none fun d hd e => by
    have w_ := List.mem_iff_getElem?.1 hd
    obtain ⟨j, hj⟩ := w_
    exact hno j d (List.getElem?_eq_some_iff.1 hj).1 hj e
   have hfin : addK1 l x k = some (sortK (l ++ [⟨x.tm.num, k⟩])) := by rw [addK1, if_pos g1, hlook]
   have hok := (addK1_ok hk (hxg x hf) hkk hfin).1
   rw [hfin]
   generalize hy : (⟨x.tm.num, k⟩ : VK) = y at *
   refine oIn [.slice (some ⟨b1, 0, none⟩) (0 + (l.map VK.v).length) c1] rfl (box_at hC) ?_
   intro r77
   refine app_intro (l.map VK.v) (by simp) hB ?_ ?_ fun b2 c2 o2 hrow2 hor2 => ?_
   ·show (_ + 1) * 16 ≤ _; omega
   ·exact Nat.le_trans (m := 2000000000) (show _ + 1 ≤ _ by omega) (by decide)
   have hA2 : Apart μ1 (H.set b2 o2) := hA.set (apartB hB hA hor2)
   have hne2 : r12 ≠ b2 := fun e => by
    subst e
    rcases hor2 with e | ⟨e, _⟩
    ·exact hne e.symm
    ·have e : H r12 = none := e
     rw [hC] at e; cases e
   refine sIn [.slice (some ⟨b1, 0, none⟩) (0 + (l.map VK.v).length) c1] 47 ((Mem.set_ne hne2).trans hC) rfl (Nat.le_refl _) ?_
   have hrow3 : RowO (H.set b2 o2) b2 c2 53 2 ((l ++ [y]).map VK.v) := by
    subst hy
    rw [List.map_append]; exact hrow2
   obtain ⟨N2, hN2⟩ : ∃ N2, N2 = 0 + (l.map VK.v).length + 1 := ⟨_, rfl⟩
   generalize hH3 : Mem.set (Mem.set H b2 o2) r12 _ = H3
   have hB3 : RowO H3 b2 c2 53 2 ((l ++ [y]).map VK.v) := by subst hH3; exact hrow3.set_ne hne2.symm
   have hC3 : H3 r12 = some (.cells #[.slice (some ⟨b2, 0, none⟩) (0 + (l.map VK.v).length + 1) c2] 47 (0, 0)) := by subst hH3; exact Mem.set_at _ _ _
   have hA3 : Apart μ1 H3 := by
    subst hH3
    refine hA2.set ?_
    cases e : μ1 r12 with
    | none => rfl
    | some o => have := hA r12 (by simp [e]); rw [hC] at this; cases this
   clear hH3 hrow3 hA2 hrow2 hor2
   obtain ⟨cs, hcell, hlen0, hcap0, hone, hcs, htake⟩ := hB3
   obtain ⟨rest, rfl⟩ : ∃ rest, cs = ((l ++ [y]).map VK.v).flatMap vcells ++ rest := by
    refine ⟨cs.drop (((l ++ [y]).map VK.v).length * 2), ?_⟩
    conv => lhs; rw [← List.take_append_drop (((l ++ [y]).map VK.v).length * 2) cs, htake]
   obtain ⟨h0, hh0, hh1, hsplit⟩ : ∃ h0 : Mem, h0 b2 = none ∧ h0 r12 = H3 r12 ∧ H3 = RowV h0 b2 53 rest ((l ++ [y]).toArray.map VK.v) := by
    refine ⟨fun q => if q = b2 then none else H3 q, if_pos rfl, if_neg hne2, funext fun q => ?_⟩
    rw [RowV, Mem.set_get]
    by_cases e : q = b2
    ·subst e; rw [if_pos rfl, hcell]; simp
    ·rw [if_neg e, if_neg e]
   rw [hC3] at hh1
   have hC4 : RowV h0 b2 53 rest ((l ++ [y]).toArray.map VK.v) r12 = some (.cells #[.slice (some ⟨b2, 0, none⟩) (0 + (l.map VK.v).length + 1) c2] 47 (0, 0)) := (Mem.set_ne hne2).trans hh1
   clear hcell
   subst hsplit
   refine oIn [.slice (some ⟨b2, 0, none⟩) (0 + (l.map VK.v).length + 1) c2] rfl (box_at hC4) ?_
   have hsz : (l ++ [y]).toArray.size = 0 + (l.map VK.v).length + 1 := by simp
   have hE : Els 2 ((l ++ [y]).toArray.map VK.v) := fun z hz => vks_els (l ++ [y]) z (by simpa using hz)
   refine cOw (SortSlice_spec (lb := [.pointer (some ⟨r12, 0, none⟩)]) (enc := VK.v) slVarKind (ttok.get rfl) (fun h => nomatch h) hE hsz (by omega) swo_ltK fun {μ' d i j} _ hV hi hj => AddKind1_spec hh1 hne2 (hV.1.trans hsz) hi hj) fun v5 μ2 h2' hle2 hap2 hR5 => ?_
   obtain ⟨rfl, d', p1, p2, rfl⟩ := hR5
   have hC5 : RowV h0 b2 53 rest (d'.map VK.v) r12 = some (.cells #[.slice (some ⟨b2, 0, none⟩) (0 + (l.map VK.v).length + 1) c2] 47 (0, 0)) := (Mem.set_ne hne2).trans hh1
   refine oIn [.slice (some ⟨b2, 0, none⟩) (0 + (l.map VK.v).length + 1) c2] rfl (box_at hC5) ?_
   have hds : d'.size = 0 + (l.map VK.v).length + 1 := p1.1.trans hsz
   have hperm : d'.toList.Perm (l ++ [y]) := permIn_list hsz p1
   have hS : d'.toList = sortK (l ++ [y]) := by
    refine sortK_uniq hperm (AscK.of_le ?_ ((hperm.map _).nodup_iff.2 ?_))
    ·rw [List.pairwise_iff_getElem]
     intro a b' ha hb' hab
     have ha : a < d'.size := by simpa using ha
     have hb' : b' < d'.size := by simpa using hb'
     have := p2 a b' (Nat.zero_le _) hab (by omega)
     rw [getElem!_pos d' a (by omega), getElem!_pos d' b' (by omega)] at this
     simp only [ltK, decide_eq_false_iff_not] at this
     simp only [Array.getElem_toList]
     exact Int.not_lt.1 this
    ·rw [List.map_append, List.nodup_append]
     refine ⟨hk.asc.nodup, by simp, fun a ha b hb e => ?_⟩
     have w_ := List.mem_map.1 ha
     obtain ⟨c, hc, rfl⟩ := w_
     simp only [List.map_cons, List.map_nil, List.mem_singleton] at hb
     subst hy
     exact lookK_none_iff hlook c hc (e.trans hb)
   rw [← hS]
   refine ret_own _ Mem.nil (Parts.nil_right _) ?_
   refine ⟨_, rfl, ?_⟩
   have hdl : d'.toList.length = 0 + (l.map VK.v).length + 1 := by simpa using hds
   have hB6 : RowO (RowV h0 b2 53 rest (d'.map VK.v)) b2 c2 53 2 (d'.toList.map VK.v) := by
    have h5 : (((l ++ [y]).map VK.v).flatMap vcells).length = ((l ++ [y]).map VK.v).length * 2 := flat_len _ fun z hz => (vks_els _ z hz).1
    have h6 : ((d'.toList.map VK.v).flatMap vcells).length = (d'.toList.map VK.v).length * 2 := flat_len _ fun z hz => (vks_els _ z hz).1
    have h7 : (d'.toList.map VK.v).length = ((l ++ [y]).map VK.v).length := by
     rw [List.length_map, List.length_map]; exact hperm.length_eq
    refine ⟨(d'.toList.map VK.v).flatMap vcells ++ rest, by rw [RowV, Mem.set_at]; simp, by rw [h7]; exact hlen0, by rw [h7]; exact hcap0, vks_els _, ?_, ?_⟩
    ·rw [List.length_append] at hcs ⊢; omega
    ·rw [← h6, List.take_left]
   have F := vks_fresh (μ := μ) hB6 hap2 (hle1.trans hle2) (by rw [hdl]; omega)
   rw [hdl] at F
   exact F
end
end Go.Vx
namespace Go.Vx
open Go.Proofs Classical
noncomputable def refFrom (bs : List B) : List VK → List VK → Option (List VK)
 | [], acc => some acc
 | c :: r, acc => (addK1 acc ((T.var c.var).subst (sub bs)) c.kind).bind fun acc' => refFrom bs r acc'
noncomputable def refK (s : List Bd) (l : List VK) : Option (List VK) := if substOk s ∧ kindsOk l then refFrom (s.map Bd.b) l [] else none
theorem kindsOk_nil : kindsOk [] := fun i k h => by simp at h
section
variable {μ : Mem}
theorem impl_RefreshKinds_spec {s : List Bd} {l : List VK} {base base2 : Option Addr} {cap cap2 : Nat} (hs : Sl μ 5 base s.length (s.map Bd.d)) (hl : Sl μ 2 base2 l.length (l.map VK.d)) :
  Spec Try.prog 31 [.slice base s.length cap, .slice base2 l.length cap2] μ fun r μ' => optVK (fun y tv => Fresh μ μ' (.sl 2 (y.map VK.d)) tv) (refK s l) r := by
 have hn := maxLen_le hl.max
 refine Spec.mkO [19] Try.func31 (by kernel_rfl) ?_
 refine cGv (impl_SubstOk_spec hs) ?_
 refine ifnd (fun h => rPl (by rw [refK, if_neg fun k => h k.1]; rfl)) (fun h1 => ?_)
 refine cGv (impl_KindsOk_spec hl) ?_
 refine ifnd (fun h => rPl (by rw [refK, if_neg fun k => h k.2]; rfl)) (fun h2 => ?_)
 have e : refK s l = refFrom (s.map Bd.b) l [] := by rw [refK, if_pos ⟨h1, h2⟩]
 rw [e]
 generalize hO : refFrom (s.map Bd.b) l [] = O
 clear e
 intro r19 hm19 ho19
 generalize hh : Mem.set _ r19 _ = h
 have hap0 : Apart μ h := by rw [← hh]; exact (apart_nil μ).set hm19
 clear hh hm19 ho19
 refine lIn (fun p : Nat × List VK × Value × Mem => p.1 ≤ l.length ∧ μ.Le p.2.2.2 ∧ Apart p.2.2.2 h ∧ kindsOk p.2.1 ∧ Fresh μ p.2.2.2 (.sl 2 (p.2.1.map VK.d)) p.2.2.1 ∧ refFrom (s.map Bd.b) (l.drop p.1) p.2.1 = O)
  (fun (i, acc, v, μ') => ⟨[(0, .val (.slice base s.length cap)), (6, .val v), (20, .val (.slice base2 l.length cap2)), (21, .val (.int .i64 l.length)), (22, .val (.int .i64 i))], [], 0, μ', h⟩) (fun p => l.length - p.1)
  (0, [], .slice (some ⟨r19, 0, none⟩) 0 0, μ) ⟨by simp, Mem.Le.refl _, hap0, kindsOk_nil, ⟨Mem.nil, ⟨_, 0, rfl, ⟨Nat.zero_le _, Nat.zero_le _⟩, by simp, .inl ⟨rfl, rfl⟩⟩, (fun _ _ h => nomatch h), fun _ h => absurd rfl h⟩, hO⟩ (fun (_, _, _, _) => ⟨rfl, rfl⟩) ⟨⟨rfl, rfl, rfl, rfl, rfl, trivial⟩, trivial, rfl, rfl⟩ ?_
 clear hO hap0
 rintro ⟨i, acc, v, μ'⟩ ⟨hi, hle, hap, hacc, hv, hJ⟩
 dsimp only at hi hle hap hacc hv hJ
 refine ifd (fun hlt => ?_) (fun hlt => ?_)
 ·have w_ := aSo (l := l) (i := i) (by omega)
  obtain ⟨c, hc⟩ := w_
  have w_ := VK.elem (hl.mono hle) hc
  obtain ⟨ad, p, hel, _⟩ := w_
  have w_ := h2 i c hc
  obtain ⟨hg1, hg2, _⟩ := w_
  rw [drop_at hc, refFrom] at hJ
  have hvr := hv.rep
  have w_ := Rep.sl hvr
  obtain ⟨b9, c9, rfl, hs9⟩ := w_
  rw [List.length_map] at hvr hv ⊢
  refine eIn hel ?_
  intro r8
  refine cGv (variable_spec _) ?_
  have hok : (T.var c.var).tm.Ok := (var_ok hg1).tm
  have hxo : ((T.var c.var).subst (sub (s.map Bd.b))).ok := by
   obtain ⟨bs, rfl, hbs⟩ := h1.subst
   rw [B.map_b]
   exact var_subst_ok hbs.vals.tok hg1
  have hadd : addK s acc (T.var c.var).tm c.kind = addK1 acc ((T.var c.var).subst (sub (s.map Bd.b))) c.kind := by
   rw [addK, if_pos ⟨h1, hok, hacc, hg2⟩, T.toT_tm, fit, if_pos hxo.2]; rfl
  refine cDa hap (impl_AddKind_spec (hs.mono hle) hvr (varV_rep c.var)) fun v2 μ2 hle2 hap2 hR2 => ?_
  rw [hadd] at hR2
  cases ha : addK1 acc ((T.var c.var).subst (sub (s.map Bd.b))) c.kind with
  | none =>
   rw [ha] at hR2 hJ
   obtain rfl := hR2
   obtain rfl : none = O := hJ
   refine iIn (fun _ => ?_) (fun h => nomatch h)
   exact ret_own _ Mem.nil (Parts.nil_right _) rfl
  | some l' =>
   rw [ha] at hR2 hJ
   obtain ⟨tv2, rfl, hR2⟩ := hR2
   refine iIn (fun h => nomatch h) (fun _ => ?_)
   refine num64 (by omega) (by omega) ⟨(i + 1, l', tv2, μ2), ⟨by dsimp only; omega, hle.trans hle2, hap2, (addK1_ok hacc hxo.1 hg2 ha).1, hR2.mono hle (Mem.Le.refl _), hJ⟩, by dsimp only; omega, ⟨⟨rfl, rfl, rfl, rfl, rfl, trivial⟩, trivial, rfl, rfl⟩⟩
 ·obtain rfl : i = l.length := by omega
  rw [List.drop_length, refFrom] at hJ
  subst hJ
  exact ret_own _ Mem.nil (Parts.nil_right _) ⟨_, rfl, hv.mono (Mem.Le.refl _) (Mem.le_join _ _)⟩
end
end Go.Vx
namespace Go.Vx
open Go.Proofs Classical
section
variable {μ : Mem}
def resVK (o : Option (List VK)) : List VK := o.getD []
theorem optVK_fresh {μ μ' : Mem} {o : Option (List VK)} {v : Value} (h : optVK (fun y tv => Fresh μ μ' (.sl 2 (y.map VK.d)) tv) o v) : ∃ tv, v = .tuple #[tv, .bool o.isSome] ∧ Fresh μ μ' (.sl 2 ((resVK o).map VK.d)) tv := by
 cases o with
 | some y => obtain ⟨tv, rfl, h⟩ := h; exact ⟨tv, rfl, h⟩
 | none => exact ⟨_, h, Mem.nil, Own.nilSl 2, (fun _ _ h => nomatch h), fun _ h => absurd rfl h⟩
theorem refFrom_ok {bs : List B} (h : ∀ b ∈ bs, b.to.ok) : ∀ {l acc y : List VK}, (∀ k ∈ l, GoodK k) → kindsOk acc → refFrom bs l acc = some y → kindsOk y
 | [], acc, y, _, ha, e => by rw [refFrom] at e; cases e; exact ha
 | c :: l, acc, y, hl, ha, e => by
  rw [refFrom] at e
  have hc := hl c (by simp)
  cases hf : addK1 acc ((T.var c.var).subst (sub bs)) c.kind with
  | none => rw [hf] at e; cases e
  | some a2 =>
   rw [hf] at e
   exact refFrom_ok h (fun k hk => hl k (by simp [hk])) (addK1_ok ha (var_subst_ok h hc.1).1 hc.2 hf).1 e
theorem refK_ok {s : List Bd} {l y : List VK} (e : refK s l = some y) : kindsOk y := by
 unfold refK at e
 split at e
 ·rename_i h
  obtain ⟨bs, rfl, hbs⟩ := h.1.subst
  rw [B.map_b] at e
  exact refFrom_ok hbs.vals.tok ((kindsOk_iff l).1 h.2).2 kindsOk_nil e
 ·cases e
set_option maxHeartbeats 4000000 in
set_option maxHeartbeats 4000000 in
end
end Go.Vx
namespace Go.Vx
open Go.Proofs Classical
section
variable {c : Cl} {rank : Int → Nat} {val : Int → T}
end
section
variable {N : List Int} {P : T → Prop} {c c1 c2 : Cl} {a b : T} {o : Bool}
theorem EqR.swap (h : EqR N P c b a o c1) : EqR N P c a b o c1 := by
 cases o with
 | true => exact ⟨h.1, h.2.1, fun θ => (h.2.2.1 θ).trans ⟨fun k => ⟨k.1, k.2.symm⟩, fun k => ⟨k.1, k.2.symm⟩⟩, h.2.2.2⟩
 | false => exact fun θ k => h θ ⟨k.1, k.2.symm⟩
section
variable {x y : Int}
end
end
end Go.Vx
namespace Go.Vx
open Go.Proofs Classical
theorem asF_out {x : List B} (h : Srt x) (hp : Proper x) {n : Int} (hn : ∀ b ∈ x, b.var ≠ n) : asF x n = .var n :=
 Classical.byContradiction fun k => by
  have w_ := (asF_bound h hp).1 k
  obtain ⟨b, hb, e⟩ := w_
  exact hn b hb e
end Go.Vx
namespace Go.Vx
open Go.Proofs Classical
theorem absorb {s : List B} (h : Subst s) {θ : Int → T} : SolvesE θ (eqsB s) ↔ ∀ n, (asF s n).ap θ = θ n := by
 constructor
 ·exact fun k n => h.solL.sol.gen θ k n
 ·intro k
  refine solves_eqsB.2 fun b hb => ?_
  have := k b.var
  rw [asF_of_mem h.vals.srt hb] at this
  exact this.symm
theorem absorb_ap {s θ : Int → T} (h : ∀ n, (s n).ap θ = θ n) (t : T) : (t.ap s).ap θ = t.ap θ := by
 rw [T.ap_ap]
 exact T.ap_congr fun n _ => h n
theorem kind_ap {θ : Int → T} {t : T} (h : t.tm.kind ≠ 1) : (t.ap θ).tm.kind = t.tm.kind := by
 cases t with
 | var n => exact absurd rfl h
 | nil => rfl
 | sym _ => rfl
 | num _ => rfl
 | pair _ _ => rfl
theorem lvB_3 : lvB 3 = 2 := by rw [lvB, if_pos (by decide), lvB, if_neg (by decide)]
theorem lvB_2 : lvB 2 = 1 := by rw [lvB, if_neg (by decide)]
end Go.Vx
namespace Go.Vx
open Go.Proofs Classical
theorem asF_lvs {e : List B} (hs : Srt e) {k : Nat} (hk : 1 ≤ k) (h : ∀ b ∈ e, b.to.lvs ≤ k) (n : Int) : (asF e n).lvs ≤ k := by
 cases c : sub e n with
 | none =>
  have : asF e n = .var n := by rw [asF, c]; rfl
  rw [this]; exact hk
 | some x =>
  have h1 : asF e n = x := by rw [asF, c]; rfl
  rw [h1]
  exact h _ (sub_in c)
end Go.Vx
namespace Go.Vx
open Go.Proofs Classical
def kindsG (l : List VK) (θ : Int → T) : Prop := ∀ c ∈ l, (θ c.var).tm.kind = c.kind
theorem kindsG_mem {l l' : List VK} {θ : Int → T} (h : ∀ c, c ∈ l ↔ c ∈ l') : kindsG l θ ↔ kindsG l' θ := ⟨fun k c hc => k c ((h c).2 hc), fun k c hc => k c ((h c).1 hc)⟩
theorem lookK_some : ∀ {l : List VK} {n c : Int}, lookK l n = some c → ∃ d ∈ l, d.var = n ∧ d.kind = c
 | d :: r, n, c, h => by
  rw [lookK] at h
  split at h
  ·rename_i e
   cases h
   exact ⟨d, by simp, e, rfl⟩
  ·have w_ := lookK_some h
   obtain ⟨x, hx, e⟩ := w_
   exact ⟨x, by simp [hx], e⟩
theorem kind_var {θ : Int → T} {x : T} (h : x.tm.kind = 1) : (x.ap θ) = θ x.tm.num := by
 conv => lhs; rw [kind_one h]
 rfl
theorem sortK_mem {l : List VK} {c : VK} : c ∈ sortK l ↔ c ∈ l := (List.mergeSort_perm l _).mem_iff
theorem addK1_some {l l' : List VK} {x : T} {k : Int} {θ : Int → T} (h : addK1 l x k = some l') : kindsG l' θ ↔ kindsG l θ ∧ (x.ap θ).tm.kind = k := by
 unfold addK1 at h
 split at h
 ·rename_i h1
  rw [kind_var h1]
  split at h
  ·rename_i c hc
   split at h
   ·rename_i e
    cases h
    have w_ := lookK_some hc
    obtain ⟨d, hd, e1, e2⟩ := w_
    exact ⟨fun q => ⟨q, by rw [← e1, q d hd, e2, e]⟩, fun q => q.1⟩
   ·cases h
  ·cases h
   have e := kindsG_mem (θ := θ) (l := sortK (l ++ [VK.mk x.tm.num k])) (l' := l ++ [VK.mk x.tm.num k]) fun c => sortK_mem
   rw [e]
   constructor
   ·exact fun q => ⟨fun c hc => q c (by simp [hc]), q ⟨x.tm.num, k⟩ (by simp)⟩
   ·rintro ⟨q1, q2⟩ c hc
    rcases List.mem_append.1 hc with hc | hc
    ·exact q1 c hc
    ·rw [List.mem_singleton.1 hc]; exact q2
 ·rename_i h1
  rw [kind_ap h1]
  split at h
  ·rename_i e
   cases h
   exact ⟨fun q => ⟨q, e⟩, fun q => q.1⟩
  ·cases h
theorem addK1_none {l : List VK} {x : T} {k : Int} {θ : Int → T} (h : addK1 l x k = none) : ¬ (kindsG l θ ∧ (x.ap θ).tm.kind = k) := by
 unfold addK1 at h
 rintro ⟨q1, q2⟩
 split at h
 ·rename_i h1
  rw [kind_var h1] at q2
  split at h
  ·rename_i c hc
   split at h
   ·cases h
   ·rename_i e
    have w_ := lookK_some hc
    obtain ⟨d, hd, e1, e2⟩ := w_
    have := q1 d hd
    rw [e1, q2, e2] at this
    exact e this.symm
  ·cases h
 ·rename_i h1
  rw [kind_ap h1] at q2
  rw [if_pos q2] at h
  cases h
theorem refFrom_some {s : List B} {θ : Int → T} : ∀ {r acc m : List VK}, refFrom s r acc = some m → (kindsG m θ ↔ kindsG acc θ ∧ ∀ c ∈ r, ((asF s c.var).ap θ).tm.kind = c.kind)
 | [], acc, m, h => by
  cases h
  simp
 | c :: r, acc, m, h => by
  rw [refFrom] at h
  have w_ := Option.bind_eq_some_iff.1 h
  obtain ⟨a, h1, h2⟩ := w_
  rw [refFrom_some h2, addK1_some h1, subst_asF]
  simp only [List.mem_cons, forall_eq_or_imp]
  exact and_assoc
theorem refFrom_none {s : List B} {θ : Int → T} : ∀ {r acc : List VK}, refFrom s r acc = none → ¬ (kindsG acc θ ∧ ∀ c ∈ r, ((asF s c.var).ap θ).tm.kind = c.kind)
 | [], acc, h => by cases h
 | c :: r, acc, h => by
  rw [refFrom] at h
  rintro ⟨q1, q2⟩
  cases e : addK1 acc ((T.var c.var).subst (sub s)) c.kind with
  | none =>
   refine addK1_none (θ := θ) e ⟨q1, ?_⟩
   rw [subst_asF]
   exact q2 c (by simp)
  | some a =>
   rw [e, Option.bind_some] at h
   refine refFrom_none (θ := θ) h ⟨(addK1_some e).2 ⟨q1, ?_⟩, fun d hd => q2 d (by simp [hd])⟩
   rw [subst_asF]
   exact q2 c (by simp)
theorem addK1_free {l l' : List VK} {x : T} {k : Int} {p : Int → Prop} (h : addK1 l x k = some l') (hl : ∀ c ∈ l, p c.var) (hx : ∀ n, x.occ n → p n) : ∀ c ∈ l', p c.var := by
 unfold addK1 at h
 split at h
 ·rename_i h1
  split at h
  ·split at h
   ·cases h; exact hl
   ·cases h
  ·cases h
   intro c hc
   rcases List.mem_append.1 (sortK_mem.1 hc) with hc | hc
   ·exact hl c hc
   ·rw [List.mem_singleton.1 hc]
    exact hx _ (by rw [kind_one h1]; rfl)
 ·split at h
  ·cases h; exact hl
  ·cases h
theorem asF_free_occ {s : List B} (hs : Subst s) {v n : Int} (h : (asF s v).occ n) : ∀ c ∈ s, c.var ≠ n := by
 by_cases k : ∃ b ∈ s, b.var = v
 ·obtain ⟨b, hb, rfl⟩ := k
  rw [asF_of_mem hs.vals.srt hb] at h
  exact hs.free hb h
 ·have k : ∀ b ∈ s, b.var ≠ v := fun b hb e => k ⟨b, hb, e⟩
  have hS := hs.solL
  rw [asF_out hS.srt hS.proper k] at h
  have h : v = n := h
  subst h
  exact k
theorem refFrom_free {s : List B} (hs : Subst s) : ∀ {r acc m : List VK}, refFrom s r acc = some m → (∀ c ∈ acc, ∀ b ∈ s, b.var ≠ c.var) → ∀ c ∈ m, ∀ b ∈ s, b.var ≠ c.var
 | [], acc, m, h, k => by cases h; exact k
 | c :: r, acc, m, h, k => by
  rw [refFrom] at h
  have w_ := Option.bind_eq_some_iff.1 h
  obtain ⟨a, h1, h2⟩ := w_
  rw [subst_asF] at h1
  exact refFrom_free hs h2 (addK1_free (p := fun n => ∀ b ∈ s, b.var ≠ n) h1 k fun n hn => asF_free_occ hs hn)
theorem refFrom_again {s : List B} (hs : Subst s) : ∀ {r acc : List VK}, (∀ c ∈ r, ∀ b ∈ s, b.var ≠ c.var) → (r.map VK.var).Nodup → (∀ c ∈ r, ∀ d ∈ acc, d.var ≠ c.var) → ∃ m, refFrom s r acc = some m ∧ m.length = acc.length + r.length
 | [], acc, _, _, _ => ⟨acc, rfl, rfl⟩
 | c :: r, acc, h1, h2, h3 => by
  have hS := hs.solL
  have e1 : (T.var c.var).subst (sub s) = .var c.var := by
   rw [subst_asF]
   exact asF_out hS.srt hS.proper (h1 c (by simp))
  have e2 : addK1 acc ((T.var c.var).subst (sub s)) c.kind = some (sortK (acc ++ [c])) := by
   have e3 : lookK acc (T.var c.var).tm.num = none := lookK_none (h3 c (by simp))
   rw [e1, addK1, if_pos (show (T.var c.var).tm.kind = 1 from rfl), e3]
   rfl
  rw [List.map_cons, List.nodup_cons] at h2
  have w_ := refFrom_again hs (r := r) (acc := sortK (acc ++ [c])) (fun d hd => h1 d (by simp [hd])) h2.2 fun d hd x hx => by
   rcases List.mem_append.1 (sortK_mem.1 hx) with hx | hx
   ·exact h3 d (by simp [hd]) x hx
   ·rw [List.mem_singleton.1 hx]
    exact fun e => h2.1 (e ▸ List.mem_map.2 ⟨d, hd, rfl⟩)
  obtain ⟨m, k1, k2⟩ := w_
  refine ⟨m, by rw [refFrom, e2, Option.bind_some]; exact k1, ?_⟩
  rw [k2, sortK, (List.mergeSort_perm _ _).length_eq, List.length_append, List.length_cons, List.length_cons, List.length_nil]
  omega
end Go.Vx
namespace Go.Vx
open Go.Proofs Classical
open Go.ChangeShapes Go.WideShapes Go.ChangeAt Go.RowKit
section
variable {μ : Mem}
theorem MakeNum_spec {base : Option Addr} {n cap : Nat} (hb : Bytes μ base n) (m : Int) (hm : m ≤ 1000000) :
  Spec Try.prog 13 [.slice base n cap, .int .i64 m] μ fun v μ' => μ' = μ ∧ ∃ k : Nat, v = .int .i64 k ∧ k < 65536 := by
 refine Spec.mk Try.func13 (by kernel_rfl) ?_
 refine cOw (l43New_spec hb m hm) fun v μ1 h1 hle1 hap1 hR => ?_
 obtain ⟨e, r, rfl, ho, hc1⟩ := hR
 obtain rfl := e.symm
 refine cOw (l01Byte_spec hc1.at) fun v μ1 h2 hle2 hap2 hR => ?_
 obtain ⟨e, hc2, k, rfl, hk⟩ := hR
 obtain rfl := e.symm
 refine num64 (by omega) (by omega) ?_
 refine cOw (l01Byte_spec hc2.at) fun v μ1 h3 hle3 hap3 hR => ?_
 obtain ⟨e, hc3, k2, rfl, hk2⟩ := hR
 obtain rfl := e.symm
 refine num64 (by omega) (by omega) ?_
 exact rPl ⟨rfl, k * 256 + k2, by congr 1, by omega⟩
theorem MakeSize_spec {base : Option Addr} {n cap : Nat} (hb : Bytes μ base n) (m lo hi : Int) (hm : m ≤ 1000000) (h0 : 0 ≤ lo) (h1 : lo ≤ hi) (h2 : hi ≤ 1000) :
  Spec Try.prog 15 [.slice base n cap, .int .i64 m, .int .i64 lo, .int .i64 hi] μ fun v μ' => μ' = μ ∧ ∃ k : Int, v = .int .i64 k ∧ lo ≤ k ∧ k ≤ hi := by
 refine Spec.mk Try.func15 (by kernel_rfl) ?_
 refine cOw (l43New_spec hb m hm) fun v μ1 h1 hle1 hap1 hR => ?_
 obtain ⟨e, r, rfl, ho, hc1⟩ := hR
 obtain rfl := e.symm
 refine num64 (by omega) (by omega) (num64 (by omega) (by omega) ?_)
 refine cOw (l01Below_spec hc1.at _) fun v μ1 h2 hle2 hap2 hR => ?_
 obtain ⟨e, hc2, k, rfl, hk, hk2, _⟩ := hR
 obtain rfl := e.symm
 have := hk2 (by omega)
 refine num64 (by omega) (by omega) ?_
 exact rPl ⟨rfl, _, rfl, by omega, by omega⟩
end
end Go.Vx
namespace Go.Vx
open Go.Proofs Classical
section
variable {μ : Mem}
theorem MakeTerm_spec {base : Option Addr} {n cap : Nat} (hb : Bytes μ base n) (m : Int) (hm : m ≤ 1000000) (size vars : Nat) (hs : size ≤ 1000) (hv : vars ≤ 1000) :
  Spec Try.prog 11 [.slice base n cap, .int .i64 m, .int .i64 size, .int .i64 vars] μ fun v μ' => ∃ t : T, RepV μ' t.tm.d v ∧ Drawn (lvB size) vars t := by
 refine Spec.mk Try.func11 (by kernel_rfl) ?_
 intro r1
 refine cOw (l43New_spec hb m hm) fun v μ1 h1 hle1 hap1 hR => ?_
 obtain ⟨e, r, rfl, ho, hc1⟩ := hR
 obtain rfl := e.symm
 refine cOw (l02Draw_spec vars hv size hs hc1.at) fun v μ2 h2 hle2 hap2 hR => ?_
 obtain ⟨hc2, t, ht, hd⟩ := hR
 have w_ := Tm.invV ht
 obtain ⟨p, rfl⟩ := w_
 exact rPl ⟨t, ht, hd⟩
theorem l12Ground_spec {h : Mem} {r : Nat} (hc : Cur μ h r h) (n : Nat) (hn : n ≤ 1000) : SpecH Try.prog 52 [.pointer (some ⟨r, 0, none⟩), .int .i64 n] μ h fun v μ' h' => Cur μ' h r h' ∧ ∃ g : List B, GVals n 2 g ∧ RepV μ' (.sl 5 ((g.map B.bd).map Bd.d)) v := by
 refine SpecH.mk [] Try.func52 (by kernel_rfl) ?_
 intro r0
 refine lIn (fun p : Nat × Option Nat × Nat × List Value × List B × Mem × Mem => p.1 ≤ n ∧ μ.Le p.2.2.2.2.2.1 ∧ Cur p.2.2.2.2.2.1 h r p.2.2.2.2.2.2 ∧ GVals p.1 2 p.2.2.2.2.1 ∧ Rows p.2.2.2.2.2.1 5 ((p.2.2.2.2.1.map B.bd).map Bd.d) p.2.2.2.1)
  (fun (i, b, c, ys, _, μ', h') => ⟨[(0, .val (.pointer (some ⟨r, 0, none⟩))), (1, .val (.int .i64 n)), (5, .row 0 b ys.length c), (6, .val (.int .i64 i))], [(0, some (.row b c 56 5 ys))], 1, μ', h'⟩) (fun p => n - p.1)
  (0, some r0, 0, [], [], μ, h) ⟨Nat.zero_le _, Mem.Le.refl _, hc, GVals.nil 2, .nil⟩ (fun (_, _, _, _, _, _, _) => ⟨rfl, rfl⟩) ⟨⟨rfl, rfl, rfl, rfl, trivial⟩, ⟨rfl, trivial⟩, rfl, rfl⟩ ?_
 rintro ⟨i, b, c, ys, g, μ1, h1⟩ ⟨hi, hle1, hc1, hg, hrows⟩
 dsimp only at hi hle1 hc1 hg hrows
 have hyl := hrows.len
 rw [List.length_map, List.length_map, hg.len] at hyl
 refine ifd (fun hlt => ?_) (fun hlt => ?_)
 ·refine cOw (l02Draw_spec 0 (by decide) 3 (by decide) hc1.at) fun v μ2 h2 hle2 hap2 hR => ?_
  obtain ⟨hc2, t, ht, hd⟩ := hR
  have w_ := Tm.invV ht
  obtain ⟨q, rfl⟩ := w_
  intro r52
  refine gIn ?_ ?_ fun b' c' hb' => ?_
  ·show (ys.length + 1) * 64 ≤ _; omega
  ·exact Nat.le_trans (m := 100000000) (show ys.length + 1 ≤ _ by omega) (by decide)
  refine num64 (by omega) (by omega) ⟨(i + 1, b', c', _, g ++ [⟨i, t⟩], μ2, h2), ⟨by dsimp only; omega, hle1.trans hle2, hc1.trans hc2, hg.snoc (hd.mono (Nat.le_of_eq lvB_3)), ?_⟩, by dsimp only; omega, ⟨⟨rfl, rfl, rfl, rfl, trivial⟩, ⟨rfl, trivial⟩, rfl, rfl⟩⟩
  dsimp only
  rw [List.map_append, List.map_append]
  exact (hrows.mono hle2).append (Rows.one (RepV.bd ht) (Bd.d_n _))
 ·obtain rfl : i = n := by omega
  refine rFz [0] fun μ2 hle2 hno hat => .inl ⟨hc1.mono hle2, g, hg, ?_⟩
  exact Rows.sl hat (hrows.mono hle2) (Nat.le_trans (m := 1000) (by omega) (by decide))
end
end Go.Vx
namespace Go.Vx
open Go.Proofs Classical
section
variable {μ : Mem}
theorem MakeValue_spec {bs : List B} {base : Option Addr} {cap : Nat} {x : T} {v : Value} (hsl : Sl μ 5 base bs.length ((bs.map B.bd).map Bd.d)) (hv : RepV μ x.tm.d v) :
  Spec Try.prog 14 [v, .slice base bs.length cap] μ fun v μ' => RepV μ' (x.ap (asF bs)).tm.d v := by
 have w_ := Tm.invV hv
 obtain ⟨p, rfl⟩ := w_
 refine Spec.mk Try.func14 (by kernel_rfl) ?_
 intro r1 r2
 refine cPl (l04Put_spec x hsl hv) fun v1 μ1 hle1 hR => ?_
 refine cPl (l02Copy_spec _ hR) fun v2 μ2 hle2 hR2 => ?_
 have w_ := Tm.invV hR2
 obtain ⟨q, rfl⟩ := w_
 refine rPl ?_
 rw [← subst_asF]
 exact hR2
end
end Go.Vx
namespace Go.Vx
open Go.Proofs Classical
noncomputable def solved (s free : List B) : List B := free.map fun b => ⟨b.var, match sub s b.var with | some t => t.ap (asF free) | none => b.to⟩
theorem solved_vals {s g : List B} {n : Nat} (hs : DSub 4 8 4 4 s) (h : GVals n 2 g) (hn : 4 ≤ n) : GVals n 8 (solved s g) := by
 refine ⟨by rw [solved, List.length_map, h.len], fun i b hb => ?_⟩
 rw [solved, List.getElem?_map] at hb
 cases e : g[i]? with
 | none => rw [e] at hb; cases hb
 | some c =>
  rw [e] at hb
  cases hb
  have h1 := h.get i c e
  refine ⟨h1.1, ?_⟩
  show Drawn 8 0 (match sub s c.var with | some t => t.ap (asF g) | none => c.to)
  cases e2 : sub s c.var with
  | none => exact h1.2.mono (by decide)
  | some t =>
   have h2 := hs.rng _ (sub_in e2)
   exact h2.2.2.ap (l := 2) (by decide) fun m h0 h1 => h.asF h0 (by omega)
theorem solved_asF {s g : List B} {n k : Nat} (h : GVals n k g) {m : Int} (h0 : 0 ≤ m) (h1 : m < n) : asF (solved s g) m = match sub s m with | some t => t.ap (asF g) | none => asF g m := by
 have w_ := aSo (l := g) (i := m.toNat) (by rw [h.len]; omega)
 obtain ⟨b, hb⟩ := w_
 have k1 := h.get _ b hb
 have e : b.var = m := by rw [k1.1]; omega
 have hs : Srt (solved s g) := fun i j c d hij hc hd => by
  rw [solved, List.getElem?_map] at hc hd
  cases e1 : g[i]? with
  | none => rw [e1] at hc; cases hc
  | some c' =>
   cases e2 : g[j]? with
   | none => rw [e2] at hd; cases hd
   | some d' =>
    rw [e1] at hc
    rw [e2] at hd
    cases hc; cases hd
    exact h.srt i j c' d' hij e1 e2
 have hm : B.mk b.var (match sub s b.var with | some t => t.ap (asF g) | none => b.to) ∈ solved s g := List.mem_map.2 ⟨b, mAt hb, rfl⟩
 have k2 := asF_of_mem hs hm
 have k3 := asF_of_mem h.srt (mAt hb)
 rw [e] at k2 k3
 simp only at k2
 rw [k2, k3]
theorem solved_solves {s g : List B} {n k : Nat} (hs : DSub 4 8 4 4 s) (h : GVals n k g) (hn : 8 ≤ n) : SolvesE (asF (solved s g)) (eqsB s) := by
 refine solves_eqsB.2 fun b hb => ?_
 have hr := hs.rng b hb
 rw [solved_asF h (by omega) (by omega), sub_of_mem (srt_of_pw hs.srt).pw hb]
 show b.to.ap (asF g) = b.to.ap (asF (solved s g))
 refine T.ap_congr fun m hm => ?_
 have hm := hr.2.2.low m hm
 rw [solved_asF h (by omega) (by omega)]
 cases e : sub s m with
 | none => rfl
 | some t =>
  have := hs.rng _ (sub_in e)
  simp only at this
  omega
section
variable {μ : Mem}
theorem MakeSolved_spec {base : Option Addr} {n cap : Nat} (hb : Bytes μ base n) (m : Int) (hm : m ≤ 1000000) :
  Spec Try.prog 22 [.slice base n cap, .int .i64 m] μ fun v μ' => ∃ (s g : List B) (u w : Value), v = .tuple #[u, w] ∧ DSub 4 8 4 4 s ∧ GVals 8 8 g ∧ SolvesE (asF g) (eqsB s) ∧ RepV μ' (.sl 5 ((s.map B.bd).map Bd.d)) u ∧ RepV μ' (.sl 5 ((g.map B.bd).map Bd.d)) w := by
 refine Spec.mk Try.func22 (by kernel_rfl) ?_
 refine cOw (l43New_spec hb m hm) fun v μ1 h1 hle1 hap1 hR => ?_
 obtain ⟨e, r, rfl, ho, hc1⟩ := hR
 obtain rfl := e.symm
 refine cOw (l04Draw_spec hc1.at) fun v μ2 h2 hle2 hap2 hR => ?_
 obtain ⟨hc2, s, hs, hrs⟩ := hR
 have w_ := Rep.sl hrs
 obtain ⟨bs, cs, rfl, hss⟩ := w_
 rw [List.length_map, List.length_map] at hss hrs ⊢
 refine cOw (l12Ground_spec hc2.at 8 (by decide)) fun v μ3 h3 hle3 hap3 hR => ?_
 obtain ⟨hc3, g, hg, hrg⟩ := hR
 have w_ := Rep.sl hrg
 obtain ⟨bg, cg, rfl, hsg⟩ := w_
 rw [List.length_map, List.length_map] at hsg ⊢
 replace hss := hss.mono hle3
 have hgl := hg.len
 intro r0
 refine lIn (fun p : Nat × Option Nat × Nat × List Value × Mem => p.1 ≤ g.length ∧ μ3.Le p.2.2.2.2 ∧ Rows p.2.2.2.2 5 ((((solved s g).take p.1).map B.bd).map Bd.d) p.2.2.2.1)
  (fun (i, b, c, ys, μ') => ⟨[(7, .val (.slice bs s.length cs)), (8, .val (.slice bg g.length cg)), (9, .row 0 b ys.length c), (22, .val (.slice bg g.length cg)), (23, .val (.int .i64 g.length)), (24, .val (.int .i64 i))], [(0, some (.row b c 56 5 ys))], 1, μ', h3⟩) (fun p => g.length - p.1)
  (0, some r0, 0, [], μ3) ⟨Nat.zero_le _, Mem.Le.refl _, .nil⟩ (fun (_, _, _, _, _) => ⟨rfl, rfl⟩) ⟨⟨rfl, rfl, rfl, rfl, rfl, rfl, trivial⟩, ⟨rfl, trivial⟩, rfl, rfl⟩ ?_
 rintro ⟨i, b, c, ys, μ4⟩ ⟨hi, hle4, hrows⟩
 dsimp only at hi hle4 hrows
 have hyl := hrows.len
 simp only [List.length_map, List.length_take, solved] at hyl
 refine ifd (fun hlt => ?_) (fun hlt => ?_)
 ·have w_ := aSo (l := g) (i := i) (by omega)
  obtain ⟨z, hz⟩ := w_
  have w_ := B.elem (hsg.mono hle4) hz
  obtain ⟨ad, p, hel, hto⟩ := w_
  refine eIn hel ?_
  intro r1
  refine cPl (l04Get_spec (hss.mono hle4)) fun v5 μ5 hle5 hR => ?_
  obtain ⟨hR, e5⟩ := hR
  obtain rfl := e5.symm
  have hR : optV (fun y tv => RepV μ4 y.tm.d tv) (sub s z.var) v5 := hR
  have hst : ∀ w : T, (match sub s z.var with | some t => t.ap (asF g) | none => z.to) = w → (solved s g)[i]? = some ⟨z.var, w⟩ := fun w e => by rw [solved, List.getElem?_map, hz, ← e]; rfl
  cases e : sub s z.var with
  | none =>
   rw [e] at hR hst
   obtain rfl := hR
   intro r2
   refine iIn (fun h => nomatch h) (fun _ => ?_)
   intro r3
   refine gIn ?_ ?_ fun b' c' hb' => ?_
   ·show (ys.length + 1) * 64 ≤ _; omega
   ·exact Nat.le_trans (m := 100000000) (show ys.length + 1 ≤ _ by omega) (by decide)
   refine num64 (by omega) (by omega) ⟨(i + 1, b', c', _, μ4), ⟨by dsimp only; omega, hle4, ?_⟩, by dsimp only; omega, ⟨⟨rfl, rfl, rfl, rfl, rfl, rfl, trivial⟩, ⟨rfl, trivial⟩, rfl, rfl⟩⟩
   dsimp only
   rw [List.take_add_one, hst _ rfl, Option.toList_some, List.map_append, List.map_append]
   exact (hrows.mono (Mem.Le.refl _)).append (Rows.one (RepV.bd hto) (Bd.d_n _))
  | some t =>
   rw [e] at hR hst
   obtain ⟨tv, rfl, htv⟩ := hR
   have w_ := Tm.invV htv
   obtain ⟨q, rfl⟩ := w_
   intro r2
   refine iIn (fun _ => ?_) (fun h => nomatch h)
   refine cPl (l04Put_spec t (hsg.mono hle4) htv) fun v6 μ6 hle6 hR6 => ?_
   have w_ := Tm.invV hR6
   obtain ⟨q6, rfl⟩ := w_
   have hst' : (solved s g)[i]? = some ⟨z.var, t.subst (sub g)⟩ := hst _ (by rw [subst_asF])
   intro r3
   refine gIn ?_ ?_ fun b' c' hb' => ?_
   ·show (ys.length + 1) * 64 ≤ _; omega
   ·exact Nat.le_trans (m := 100000000) (show ys.length + 1 ≤ _ by omega) (by decide)
   refine num64 (by omega) (by omega) ⟨(i + 1, b', c', _, μ6), ⟨by dsimp only; omega, hle4.trans hle6, ?_⟩, by dsimp only; omega, ⟨⟨rfl, rfl, rfl, rfl, rfl, rfl, trivial⟩, ⟨rfl, trivial⟩, rfl, rfl⟩⟩
   dsimp only
   rw [List.take_add_one, hst', Option.toList_some, List.map_append, List.map_append]
   exact (hrows.mono hle6).append (Rows.one (RepV.bd hR6) (Bd.d_n _))
 ·obtain rfl : i = g.length := by omega
  have e : (solved s g).take g.length = solved s g := List.take_of_length_le (by rw [solved, List.length_map]; exact Nat.le_refl _)
  rw [e] at hrows
  refine rFz [0] fun μ5 hle5 hno hat => .inl ⟨s, solved s g, _, _, rfl, hs, solved_vals hs hg (by omega), solved_solves hs hg (Nat.le_refl _), hrs.mono (hle3.trans (hle4.trans hle5)), ?_⟩
  exact Rows.sl hat (hrows.mono hle5) (Nat.le_trans (m := 1000) (by omega) (by decide))
end
end Go.Vx
namespace Go.Vx
open Go.Proofs Classical
theorem T.good_occ : ∀ {t : T} {n : Int}, t.good → t.occ n → (T.var n).good
 | .pair _ _, n, h, k => k.elim (fun k => T.good_occ h.1 k) fun k => T.good_occ h.2 k
 | .var m, n, h, k => by
  have k : m = n := k
  subst k
  exact h
 | .nil, _, _, k => k.elim
 | .sym _, _, _, k => k.elim
 | .num _, _, _, k => k.elim
theorem DSub.fit {s : List B} (hs : DSub 4 8 4 4 s) {k : Nat} {vars : Int} {t : T} (h : Drawn k vars t) (hk : k ≤ 8) : fit (t.subst (sub s)) = some (t.ap (asF s)) := by
 rw [subst_asF]
 have h1 := lvs_ap (s := asF s) (M := 4) (by decide) t fun n _ => asF_lvs (srt_of_pw hs.srt) (by decide) (fun b hb => (hs.rng b hb).2.2.lvs) n
 have h2 := (t.ap (asF s)).size_lvs
 have h3 := h.lvs
 exact fit_some.2 ⟨by omega, rfl⟩
theorem DSub.good_ap {s : List B} (hs : DSub 4 8 4 4 s) {k : Nat} {vars : Int} {t : T} (h : Drawn k vars t) : (t.ap (asF s)).good :=
 T.good_ap (fun n hn => by
  cases e : sub s n with
  | none =>
   have : asF s n = .var n := by rw [asF, e]; rfl
   rw [this]
   exact T.good_occ h.good hn
  | some x =>
   have h1 : asF s n = x := by rw [asF, e]; rfl
   rw [h1]
   exact (hs.rng _ (sub_in e)).2.2.good) h.good
section
variable {μ : Mem}
theorem kinds_spec {l : List VK} {g : List B} {base base2 : Option Addr} {cap cap2 : Nat} (hs : Sl μ 2 base l.length (l.map VK.d)) (hg : Sl μ 5 base2 g.length ((g.map B.bd).map Bd.d)) :
  Spec Try.prog 30 [.slice base l.length cap, .slice base2 g.length cap2] μ fun v _ => v = .bool (decide (kindsG l (asF g))) := by
 have hn := maxLen_le hs.max
 refine Spec.mk Try.func30 (by kernel_rfl) ?_
 refine lIn (fun p : Nat × Mem => p.1 ≤ l.length ∧ μ.Le p.2 ∧ kindsG (l.take p.1) (asF g))
  (fun (i, μ') => ⟨[(1, .val (.slice base2 g.length cap2)), (7, .val (.slice base l.length cap)), (8, .val (.int .i64 l.length)), (9, .val (.int .i64 i))], [], 0, μ', Mem.nil⟩) (fun p => l.length - p.1)
  (0, μ) ⟨Nat.zero_le _, Mem.Le.refl _, by simp [kindsG]⟩ (fun (_, _) => ⟨rfl, rfl⟩) ⟨⟨rfl, rfl, rfl, rfl, trivial⟩, trivial, rfl, rfl⟩ ?_
 rintro ⟨i, μ1⟩ ⟨hi, hle1, hall⟩
 dsimp only at hi hle1 hall
 refine ifd (fun h => ?_) (fun h => ?_)
 ·have w_ := aSo (l := l) (i := i) (by omega)
  obtain ⟨b, hb⟩ := w_
  have w_ := VK.elem (hs.mono hle1) hb
  obtain ⟨ad, p, hel, hto⟩ := w_
  refine eIn hel ?_
  intro r3
  refine cPl (MakeValue_spec (x := .var b.var) (hg.mono hle1) (varV_rep b.var)) fun v2 μ2 hle2 hR2 => ?_
  have w_ := Tm.invV hR2
  obtain ⟨q, rfl⟩ := w_
  refine ifnd (fun h5 => rPl (isF fun e => h5 (e b (mAt hb)))) (fun h5 => ?_)
  refine num64 (by omega) (by omega) ⟨(i + 1, μ2), ⟨by dsimp only; omega, hle1.trans hle2, ?_⟩, by dsimp only; omega, ⟨⟨rfl, rfl, rfl, rfl, trivial⟩, trivial, rfl, rfl⟩⟩
  dsimp only
  rw [List.take_add_one, hb, Option.toList_some]
  intro c hc
  rcases List.mem_append.1 hc with hc | hc
  ·exact hall c hc
  ·rw [List.mem_singleton.1 hc]; exact h5
 ·obtain rfl : i = l.length := by omega
  rw [List.take_length] at hall
  exact rPl (isT hall)
set_option maxHeartbeats 1000000 in
theorem FnKinds_spec {base : Option Addr} {n cap : Nat} (hb : Bytes μ base n) :
  Spec Try.prog 5 [.slice base n cap] μ fun r _ => r = .bool true := by
 refine Spec.mk Try.func5 (by kernel_rfl) ?_
 refine ifd (fun h => rPl rfl) (fun h => ?_)
 refine cPl (MakeSolved_spec hb 0 (by decide)) fun v1 μ1 hle1 hR => ?_
 obtain ⟨s, g, u1, u2, rfl, hs, hg, hsol, hrs, hrg⟩ := hR
 have w_ := Rep.sl hrs
 obtain ⟨b1, c1, rfl, hss⟩ := w_
 have w_ := Rep.sl hrg
 obtain ⟨b2, c2, rfl, hsg⟩ := w_
 rw [List.length_map, List.length_map] at hss hsg ⊢
 rw [List.length_map, List.length_map]
 refine cPl (MakeTerm_spec (hb.mono hle1) 40 (by decide) 2 8 (by decide) (by decide)) fun v2 μ2 hle2 hR => ?_
 obtain ⟨t, ht, hdt⟩ := hR
 rw [lvB_2] at hdt
 have w_ := Tm.invV ht
 obtain ⟨pt, rfl⟩ := w_
 intro r1
 refine cPl (MakeNum_spec (hb.mono (hle1.trans hle2)) 60 (by decide)) fun v3 μ3 hle3 hR => ?_
 obtain ⟨e, k0, rfl, hk0⟩ := hR
 obtain rfl := e.symm
 refine need_intro (by decide) ?_
 have e1 : (k0 : Int).tmod 2 = ((k0 % 2 : Nat) : Int) := Int.ofNat_tmod k0 2 |>.symm
 refine nEq e1 (num64 (by omega) (by omega) ?_)
 generalize hk : (2 : Int) + ((k0 % 2 : Nat) : Int) = k
 have hk23 : k = 2 ∨ k = 3 := by omega
 replace hss := hss.mono hle2
 replace hsg := hsg.mono hle2
 have hS := hs.subst (by decide) (by decide) (by decide) (by decide)
 have hab := (absorb hS).1 hsol
 have hadd := impl_AddKind_spec (s := s.map B.bd) (l := []) (t := t.tm) (k := k) (base := b1) (base2 := none) (cap := c1) (cap2 := 0) (by rw [List.length_map]; exact hss) (Rep.nilSl 2) ht
 rw [List.length_map] at hadd
 have eadd : addK (s.map B.bd) [] t.tm k = addK1 [] (t.ap (asF s)) k := by
  rw [addK, if_pos ⟨(substOk_iff s).2 hS, (hdt.ok (by decide)).tm, kindsOk_nil, hk23⟩, B.map_b, T.toT_tm, hs.fit hdt (by decide)]; rfl
 rw [eadd] at hadd
 refine cPl hadd fun v4 μ4 hle4 hR4 => ?_
 replace hss := hss.mono hle4
 replace hsg := hsg.mono hle4
 replace ht := ht.mono hle4
 replace hb := hb.mono (hle1.trans (hle2.trans hle4))
 have happ : (t.ap (asF s)).ap (asF g) = t.ap (asF g) := absorb_ap hab t
 cases ho : addK1 [] (t.ap (asF s)) k with
 | none =>
  rw [ho] at hR4
  obtain rfl := hR4
  have hno := addK1_none (θ := asF g) ho
  rw [happ] at hno
  have hno : ¬ (t.ap (asF g)).tm.kind = k := fun q => hno ⟨by simp [kindsG], q⟩
  refine cPl (MakeValue_spec hsg ht) fun v5 μ5 hle5 hR5 => ?_
  have w_ := Tm.invV hR5
  obtain ⟨p5, rfl⟩ := w_
  have hko := impl_KindsOk_spec (μ := μ5) (l := []) (base := none) (cap := 0) ⟨rfl, Nat.zero_le _, fun i x h => by simp at h⟩
  refine cGv hko ?_
  refine ifnd (fun q => absurd kindsOk_nil q) (fun _ => ?_)
  refine iIn (fun q => nomatch q) (fun _ => ?_)
  refine iIn (fun _ => ?_) (fun q => nomatch q)
  refine ifd (fun q => absurd q hno) (fun _ => ?_)
  replace hss := hss.mono hle5
  replace hsg := hsg.mono hle5
  replace hb := hb.mono hle5
  refine cPl (MakeSize_spec hb 62 0 3 (by decide) (by decide) (by decide) (by decide)) fun v7 μ7 hle7 hR => ?_
  obtain ⟨e7, x7, rfl, hx0, hx3⟩ := hR
  obtain rfl := e7.symm
  refine cPl (MakeSize_spec hb 63 4 7 (by decide) (by decide) (by decide) (by decide)) fun v8 μ8 hle8 hR => ?_
  obtain ⟨e8, y8, rfl, hy4, hy7⟩ := hR
  obtain rfl := e8.symm
  intro r2
  refine call_frz [1] ?_
  intro μ9 hle9 hno9 hat9
  have hraw : Sl μ9 2 (some ⟨r2, 0, none⟩) 2 (([VK.mk x7 k, VK.mk y8 2] : List VK).map VK.d) := by
   have := Rows.sl hat9 (ds := ([VK.mk x7 k, VK.mk y8 2] : List VK).map VK.d) (.cons ⟨_, rfl, RepS.int (RepS.int rfl)⟩ (VK.d_n _) (.cons ⟨_, rfl, RepS.int (RepS.int rfl)⟩ (VK.d_n _) .nil)) (show 2 ≤ maxLen by decide)
   have w_ := Rep.sl this
   obtain ⟨_, _, e, h⟩ := w_
   cases e
   exact h
  replace hss := hss.mono hle9
  replace hsg := hsg.mono hle9
  have hrk : kindsOk [VK.mk x7 k, VK.mk y8 2] := by
   refine (kindsOk_iff _).2 ⟨?_, fun c hc => ?_⟩
   ·exact List.pairwise_pair.2 (show x7 < y8 by omega)
   ·simp only [List.mem_cons, List.not_mem_nil, or_false] at hc
    rcases hc with rfl | rfl
    ·exact ⟨by show 0 ≤ x7 ∧ x7 ≤ 100000; omega, hk23⟩
    ·exact ⟨by show 0 ≤ y8 ∧ y8 ≤ 100000; omega, .inl rfl⟩
  generalize hrawe : [VK.mk x7 k, VK.mk y8 2] = raw at *
  have hrl : raw.length = 2 := by rw [← hrawe]; rfl
  have href := impl_RefreshKinds_spec (s := s.map B.bd) (l := raw) (base := b1) (base2 := some ⟨r2, 0, none⟩) (cap := c1) (cap2 := 2) (by rw [List.length_map]; exact hss) (by rw [hrl]; exact hraw)
  rw [List.length_map, hrl] at href
  have erk : ∀ l, kindsOk l → refK (s.map B.bd) l = refFrom s l [] := fun l hl => by rw [refK, if_pos ⟨(substOk_iff s).2 hS, hl⟩, B.map_b]
  rw [erk raw hrk] at href
  refine call_go href fun v10 μ10 hle10 hR10 => ?_
  replace hss := hss.mono hle10
  replace hsg := hsg.mono hle10
  replace hraw := hraw.mono hle10
  have hval : (∀ c ∈ raw, ((asF s c.var).ap (asF g)).tm.kind = c.kind) ↔ kindsG raw (asF g) := by
   unfold kindsG
   simp only [hab]
  cases hm : refFrom s raw [] with
  | none =>
   rw [hm] at hR10
   obtain rfl := hR10
   have href2 := impl_RefreshKinds_spec (μ := μ10) (s := s.map B.bd) (l := []) (base := b1) (base2 := none) (cap := c1) (cap2 := 0) (by rw [List.length_map]; exact hss) ⟨rfl, Nat.zero_le _, fun i x h => by simp at h⟩
   rw [List.length_map] at href2
   refine cPl href2 fun v11 μ11 hle11 hR11 => ?_
   have w_ := optVK_fresh hR11
   obtain ⟨tv, rfl, _⟩ := w_
   refine iIn (fun _ => ?_) (fun q => nomatch q)
   have hks := kinds_spec (l := raw) (base := some ⟨r2, 0, none⟩) (cap := 2) (cap2 := c2) (by rw [hrl]; exact hraw.mono hle11) (hsg.mono hle11)
   rw [hrl] at hks
   refine cPl hks fun v12 μ12 hle12 hR12 => ?_
   obtain rfl := hR12
   have hno := refFrom_none (θ := asF g) hm
   rw [hval] at hno
   have hno : ¬ kindsG raw (asF g) := fun q => hno ⟨by simp [kindsG], q⟩
   refine rPl ?_
   rw [decide_eq_false hno]; rfl
  | some m =>
   rw [hm] at hR10
   obtain ⟨mv, rfl, hmv⟩ := hR10
   have w_ := Rep.sl hmv.rep
   obtain ⟨b5, c5, rfl, hsm⟩ := w_
   rw [List.length_map] at hsm ⊢
   have hmok : kindsOk m := refK_ok (s := s.map B.bd) (l := raw) (by rw [erk raw hrk]; exact hm)
   have href2 := impl_RefreshKinds_spec (μ := μ10) (s := s.map B.bd) (l := m) (base := b1) (base2 := b5) (cap := c1) (cap2 := c5) (by rw [List.length_map]; exact hss) hsm
   rw [List.length_map, erk m hmok] at href2
   have hag := refFrom_again hS (r := m) (acc := []) (refFrom_free hS hm fun c hc => by simp at hc) (by
    have := hmok.asc
    rw [List.Nodup, List.pairwise_map]
    exact this.imp fun q e => by omega) fun c _ d hd => by simp at hd
   obtain ⟨m2, hm2, hml⟩ := hag
   rw [hm2] at href2
   refine cPl href2 fun v11 μ11 hle11 hR11 => ?_
   obtain ⟨nv, rfl, hnv⟩ := hR11
   have w_ := Rep.sl hnv.rep
   obtain ⟨b6, c6, rfl, hsn⟩ := w_
   rw [List.length_map] at hsn ⊢
   refine iIn (fun q => nomatch q) (fun _ => ?_)
   refine cPl (kinds_spec (l := m) (cap := c5) (cap2 := c2) (hsm.mono hle11) (hsg.mono hle11)) fun v12 μ12 hle12 hR12 => ?_
   obtain rfl := hR12
   have hks := kinds_spec (μ := μ12) (l := raw) (base := some ⟨r2, 0, none⟩) (cap := 2) (cap2 := c2) (by rw [hrl]; exact hraw.mono (hle11.trans hle12)) (hsg.mono (hle11.trans hle12))
   rw [hrl] at hks
   refine cPl hks fun v13 μ13 hle13 hR13 => ?_
   obtain rfl := hR13
   have hyes := refFrom_some (θ := asF g) hm
   rw [hval] at hyes
   have hyes : kindsG m (asF g) ↔ kindsG raw (asF g) := hyes.trans ⟨fun q => q.2, fun q => ⟨by simp [kindsG], q⟩⟩
   have eb2 : (decide (kindsG m (asF g)) == decide (kindsG raw (asF g)) : Bool) = true := by
    simp only [hyes, beq_self_eq_true]
   refine iIn (fun _ => ?_) (fun q => absurd (eb2.symm.trans q) (by decide))
   refine iIn (fun _ => ?_) (fun q => nomatch q)
   refine rPl ?_
   rw [hml, List.length_nil, Nat.zero_add, decide_eq_true rfl]
 | some l =>
  rw [ho] at hR4
  obtain ⟨lv, rfl, hlv⟩ := hR4
  have hyes := addK1_some (θ := asF g) ho
  rw [happ] at hyes
  have hyes : kindsG l (asF g) ↔ (t.ap (asF g)).tm.kind = k := hyes.trans ⟨fun q => q.2, fun q => ⟨by simp [kindsG], q⟩⟩
  have hlok := (addK1_ok kindsOk_nil (hs.good_ap hdt) hk23 ho).1
  have w_ := Rep.sl hlv.rep
  obtain ⟨b4, c4, rfl, hsl⟩ := w_
  rw [List.length_map] at hsl ⊢
  refine cPl (MakeValue_spec hsg ht) fun v5 μ5 hle5 hR5 => ?_
  have w_ := Tm.invV hR5
  obtain ⟨p5, rfl⟩ := w_
  replace hss := hss.mono hle5
  replace hsg := hsg.mono hle5
  replace hb := hb.mono hle5
  replace hsl := hsl.mono hle5
  refine cGv (impl_KindsOk_spec hsl) ?_
  refine ifnd (fun q => absurd hlok q) (fun _ => ?_)
  refine iIn (fun _ => ?_) (fun q => nomatch q)
  refine cPl (kinds_spec (cap := c4) (cap2 := c2) hsl hsg) fun v6 μ6 hle6 hR6 => ?_
  obtain rfl := hR6
  have eb : (!(decide (kindsG l (asF g)) == decide ((t.ap (asF g)).tm.kind = k)) : Bool) = false := by
   simp only [hyes, beq_self_eq_true, Bool.not_true]
  refine iIn (fun q => absurd (eb.symm.trans q) (by decide)) (fun _ => ?_)
  refine iIn (fun q => nomatch q) (fun _ => ?_)
  replace hss := hss.mono hle6
  replace hsg := hsg.mono hle6
  replace hb := hb.mono hle6
  refine cPl (MakeSize_spec hb 62 0 3 (by decide) (by decide) (by decide) (by decide)) fun v7 μ7 hle7 hR => ?_
  obtain ⟨e7, x7, rfl, hx0, hx3⟩ := hR
  obtain rfl := e7.symm
  refine cPl (MakeSize_spec hb 63 4 7 (by decide) (by decide) (by decide) (by decide)) fun v8 μ8 hle8 hR => ?_
  obtain ⟨e8, y8, rfl, hy4, hy7⟩ := hR
  obtain rfl := e8.symm
  intro r2
  refine call_frz [1] ?_
  intro μ9 hle9 hno9 hat9
  have hraw : Sl μ9 2 (some ⟨r2, 0, none⟩) 2 (([VK.mk x7 k, VK.mk y8 2] : List VK).map VK.d) := by
   have := Rows.sl hat9 (ds := ([VK.mk x7 k, VK.mk y8 2] : List VK).map VK.d) (.cons ⟨_, rfl, RepS.int (RepS.int rfl)⟩ (VK.d_n _) (.cons ⟨_, rfl, RepS.int (RepS.int rfl)⟩ (VK.d_n _) .nil)) (show 2 ≤ maxLen by decide)
   have w_ := Rep.sl this
   obtain ⟨_, _, e, h⟩ := w_
   cases e
   exact h
  replace hss := hss.mono hle9
  replace hsg := hsg.mono hle9
  have hrk : kindsOk [VK.mk x7 k, VK.mk y8 2] := by
   refine (kindsOk_iff _).2 ⟨?_, fun c hc => ?_⟩
   ·exact List.pairwise_pair.2 (show x7 < y8 by omega)
   ·simp only [List.mem_cons, List.not_mem_nil, or_false] at hc
    rcases hc with rfl | rfl
    ·exact ⟨by show 0 ≤ x7 ∧ x7 ≤ 100000; omega, hk23⟩
    ·exact ⟨by show 0 ≤ y8 ∧ y8 ≤ 100000; omega, .inl rfl⟩
  generalize hrawe : [VK.mk x7 k, VK.mk y8 2] = raw at *
  have hrl : raw.length = 2 := by rw [← hrawe]; rfl
  have href := impl_RefreshKinds_spec (s := s.map B.bd) (l := raw) (base := b1) (base2 := some ⟨r2, 0, none⟩) (cap := c1) (cap2 := 2) (by rw [List.length_map]; exact hss) (by rw [hrl]; exact hraw)
  rw [List.length_map, hrl] at href
  have erk : ∀ l, kindsOk l → refK (s.map B.bd) l = refFrom s l [] := fun l hl => by rw [refK, if_pos ⟨(substOk_iff s).2 hS, hl⟩, B.map_b]
  rw [erk raw hrk] at href
  refine call_go href fun v10 μ10 hle10 hR10 => ?_
  replace hss := hss.mono hle10
  replace hsg := hsg.mono hle10
  replace hraw := hraw.mono hle10
  have hval : (∀ c ∈ raw, ((asF s c.var).ap (asF g)).tm.kind = c.kind) ↔ kindsG raw (asF g) := by
   unfold kindsG
   simp only [hab]
  cases hm : refFrom s raw [] with
  | none =>
   rw [hm] at hR10
   obtain rfl := hR10
   have href2 := impl_RefreshKinds_spec (μ := μ10) (s := s.map B.bd) (l := []) (base := b1) (base2 := none) (cap := c1) (cap2 := 0) (by rw [List.length_map]; exact hss) ⟨rfl, Nat.zero_le _, fun i x h => by simp at h⟩
   rw [List.length_map] at href2
   refine cPl href2 fun v11 μ11 hle11 hR11 => ?_
   have w_ := optVK_fresh hR11
   obtain ⟨tv, rfl, _⟩ := w_
   refine iIn (fun _ => ?_) (fun q => nomatch q)
   have hks := kinds_spec (l := raw) (base := some ⟨r2, 0, none⟩) (cap := 2) (cap2 := c2) (by rw [hrl]; exact hraw.mono hle11) (hsg.mono hle11)
   rw [hrl] at hks
   refine cPl hks fun v12 μ12 hle12 hR12 => ?_
   obtain rfl := hR12
   have hno := refFrom_none (θ := asF g) hm
   rw [hval] at hno
   have hno : ¬ kindsG raw (asF g) := fun q => hno ⟨by simp [kindsG], q⟩
   refine rPl ?_
   rw [decide_eq_false hno]; rfl
  | some m =>
   rw [hm] at hR10
   obtain ⟨mv, rfl, hmv⟩ := hR10
   have w_ := Rep.sl hmv.rep
   obtain ⟨b5, c5, rfl, hsm⟩ := w_
   rw [List.length_map] at hsm ⊢
   have hmok : kindsOk m := refK_ok (s := s.map B.bd) (l := raw) (by rw [erk raw hrk]; exact hm)
   have href2 := impl_RefreshKinds_spec (μ := μ10) (s := s.map B.bd) (l := m) (base := b1) (base2 := b5) (cap := c1) (cap2 := c5) (by rw [List.length_map]; exact hss) hsm
   rw [List.length_map, erk m hmok] at href2
   have hag := refFrom_again hS (r := m) (acc := []) (refFrom_free hS hm fun c hc => by simp at hc) (by
    have := hmok.asc
    rw [List.Nodup, List.pairwise_map]
    exact this.imp fun q e => by omega) fun c _ d hd => by simp at hd
   obtain ⟨m2, hm2, hml⟩ := hag
   rw [hm2] at href2
   refine cPl href2 fun v11 μ11 hle11 hR11 => ?_
   obtain ⟨nv, rfl, hnv⟩ := hR11
   have w_ := Rep.sl hnv.rep
   obtain ⟨b6, c6, rfl, hsn⟩ := w_
   rw [List.length_map] at hsn ⊢
   refine iIn (fun q => nomatch q) (fun _ => ?_)
   refine cPl (kinds_spec (l := m) (cap := c5) (cap2 := c2) (hsm.mono hle11) (hsg.mono hle11)) fun v12 μ12 hle12 hR12 => ?_
   obtain rfl := hR12
   have hks := kinds_spec (μ := μ12) (l := raw) (base := some ⟨r2, 0, none⟩) (cap := 2) (cap2 := c2) (by rw [hrl]; exact hraw.mono (hle11.trans hle12)) (hsg.mono (hle11.trans hle12))
   rw [hrl] at hks
   refine cPl hks fun v13 μ13 hle13 hR13 => ?_
   obtain rfl := hR13
   have hyes := refFrom_some (θ := asF g) hm
   rw [hval] at hyes
   have hyes : kindsG m (asF g) ↔ kindsG raw (asF g) := hyes.trans ⟨fun q => q.2, fun q => ⟨by simp [kindsG], q⟩⟩
   have eb2 : (decide (kindsG m (asF g)) == decide (kindsG raw (asF g)) : Bool) = true := by
    simp only [hyes, beq_self_eq_true]
   refine iIn (fun _ => ?_) (fun q => absurd (eb2.symm.trans q) (by decide))
   refine iIn (fun _ => ?_) (fun q => nomatch q)
   refine rPl ?_
   rw [hml, List.length_nil, Nat.zero_add, decide_eq_true rfl]
end
end Go.Vx
