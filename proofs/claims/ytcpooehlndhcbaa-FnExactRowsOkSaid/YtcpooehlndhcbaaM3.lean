/- Texts of the proof, part 3. -/
import Derived.Orders
import Derived.Below
import Derived.WalkKit
import Derived.MapKept
import Derived.WideKeyMaps
import Derived.Maps.RangeRun
import Derived.Laws.Cover3
import Derived.Laws.IdiomStrings
import Derived.Laws.BytesString
import Derived.Deep.RegionHeld3
import Derived.Carry
import Derived.ChangeArms
import Derived.RowKit3
import Derived.Test.YtcpooehlndhcbaaChecked
import Derived.KernelRfl
import Derived.ProofKit
import Derived.OpenShut
import Derived.ChangeOld
import Derived.Handed
import Derived.JoinedOf
import Derived.Sort.AssemblyPlain
import Derived.Test.YtcpooehlndhcbaaM2
/- Contracts: rows of numbers turned round, and sorted by a heap. -/
namespace Go.Vx
open Go.Proofs Classical
open Go.Sort
section
variable {μ h0 : Mem} {r : Nat} {ty : TypeId} {rest : List Value} {d : Array Int}
theorem reverseRange_spec {n a b : Nat} {cap : Nat} (hd : d.size = n) (hb1 : 1 ≤ b) (ha : a ≤ b) (hb : b ≤ n) (hn : n ≤ 1000000000000) :
    SpecH Try.prog 89 [.slice (some ⟨r, 0, none⟩) n cap, .int .i64 a, .int .i64 b] μ (RowI h0 r ty rest d) fun v μ' h' => v = .tuple #[] ∧ μ' = μ ∧ h' = RowI h0 r ty rest (reverseRange d a b) := by
  refine SpecH.mk [] Try.func89 (by kernel_rfl) ?_
  rw [reverseRange]
  generalize hD : reverseLoop a (b - 1) d = D
  refine num_eq (x := ((b - 1 : Nat) : Int)) (by rw [wrap64 (by omega) (by omega)]; omega) ?_
  refine loop_intro (fun p : Nat × Nat × Array Int => p.2.1 < n ∧ p.1 ≤ n ∧ p.2.2.size = n ∧ reverseLoop p.1 p.2.1 p.2.2 = D)
    (fun (i, j, d) => ⟨[(0, .val (.slice (some ⟨r, 0, none⟩) n cap)), (6, .val (.int .i64 i)), (7, .val (.int .i64 j))], [], 0, μ, RowI h0 r ty rest d⟩) (fun p => p.2.1)
    (a, b - 1, d) ⟨by dsimp only; omega, by dsimp only; omega, hd, hD⟩ (fun (_, _, _) => ⟨rfl, rfl⟩) ⟨⟨rfl, rfl, rfl, trivial⟩, trivial, rfl, rfl⟩ ?_
  rintro ⟨i, j, d1⟩ ⟨hj, hi, hs, hJ⟩
  dsimp only at hj hi hs hJ
  rw [reverseLoop] at hJ
  refine ifd (fun h => ?_) (fun h => ?_)
  · rw [if_pos (by omega)] at hJ
    refine idxI (j) (by omega) (by omega) ?_
    refine rdI (by omega) ?_
    refine idxI (i) (by omega) (by omega) ?_
    refine rdI (by omega) ?_
    refine idxI (i) (by omega) (by omega) ?_
    refine wrI (by omega) ?_
    refine idxI (j) (by omega) (by omega) ?_
    refine wrI (by simp; omega) ?_
    refine num_eq (x := ((i + 1 : Nat) : Int)) (by rw [wrap64 (by omega) (by omega)]; omega) ?_
    refine num_eq (x := ((j - 1 : Nat) : Int)) (by rw [wrap64 (by omega) (by omega)]; omega) ?_
    exact ⟨(i + 1, j - 1, swp d1 i j), ⟨by dsimp only; omega, by dsimp only; omega, by dsimp only; rw [swp_size]; exact hs, hJ⟩, by dsimp only; omega, ⟨⟨rfl, rfl, rfl, trivial⟩, trivial, rfl, rfl⟩⟩
  · rw [if_neg (by omega)] at hJ
    exact ret_plain ⟨rfl, rfl, by rw [hJ]⟩
theorem siftDown_spec {n lo hi first : Nat} {cap : Nat} (hd : d.size = n) (hb : first + hi ≤ n) (hl : lo ≤ n) (hn : n ≤ 1000000000000) :
    SpecH Try.prog 96 [.slice (some ⟨r, 0, none⟩) n cap, .int .i64 lo, .int .i64 hi, .int .i64 first] μ (RowI h0 r ty rest d) fun v μ' h' => v = .tuple #[] ∧ μ' = μ ∧ h' = RowI h0 r ty rest (siftDown ltInt hi first lo d) := by
  refine SpecH.mk [] Try.func96 (by kernel_rfl) ?_
  generalize hD : siftDown ltInt hi first lo d = D
  refine loop_intro (fun p : Nat × Array Int => p.1 ≤ n ∧ p.2.size = n ∧ siftDown ltInt hi first p.1 p.2 = D)
    (fun (i, d) => ⟨[(0, .val (.slice (some ⟨r, 0, none⟩) n cap)), (2, .val (.int .i64 hi)), (3, .val (.int .i64 first)), (8, .val (.int .i64 i))], [], 0, μ, RowI h0 r ty rest d⟩) (fun p => hi - p.1)
    (lo, d) ⟨hl, hd, hD⟩ (fun (_, _) => ⟨rfl, rfl⟩) ⟨⟨rfl, rfl, rfl, rfl, trivial⟩, trivial, rfl, rfl⟩ ?_
  rintro ⟨i, d1⟩ ⟨hi1, hs, hJ⟩
  dsimp only at hi1 hs hJ
  rw [siftDown] at hJ
  refine num_eq (x := ((2 * i : Nat) : Int)) (by rw [wrap64 (by omega) (by omega)]; omega) ?_
  refine num_eq (x := ((2 * i + 1 : Nat) : Int)) (by rw [wrap64 (by omega) (by omega)]; omega) ?_
  refine ifd (fun h => ?_) (fun h => ?_)
  · rw [dif_pos (by omega)] at hJ
    exact ret_plain ⟨rfl, rfl, by rw [hJ]⟩
  rw [dif_neg (by omega)] at hJ
  refine num_eq (x := ((2 * i + 1 + 1 : Nat) : Int)) (by rw [wrap64 (by omega) (by omega)]; omega) ?_
  refine ifd (fun h2 => ?_) (fun h2 => ?_)
  · refine num_eq (x := ((first + (2 * i + 1) : Nat) : Int)) (by rw [wrap64 (by omega) (by omega)]; omega) ?_
    refine idxI (first + (2 * i + 1)) (by omega) (by omega) ?_
    refine rdI (by omega) ?_
    refine num_eq (x := ((first + (2 * i + 1) : Nat) : Int)) (by rw [wrap64 (by omega) (by omega)]; omega) ?_
    refine num_eq (x := ((first + (2 * i + 1) + 1 : Nat) : Int)) (by rw [wrap64 (by omega) (by omega)]; omega) ?_
    refine idxI (first + (2 * i + 1) + 1) (by omega) (by omega) ?_
    refine rdI (by omega) ?_
    refine call_gives (Less_spec _ _) ?_
    have g : decide (2 * i + 1 + 1 < hi) = true := decide_eq_true (by omega)
    refine if_intro (fun hl => ?_) (fun hl => ?_)
    · rw [g, hl, Bool.and_self, if_pos rfl] at hJ
      refine num_eq (x := ((2 * i + 2 : Nat) : Int)) (by rw [wrap64 (by omega) (by omega)]; omega) ?_
      refine num_eq (x := ((first + i : Nat) : Int)) (by rw [wrap64 (by omega) (by omega)]; omega) ?_
      refine idxI (first + i) (by omega) (by omega) ?_
      refine rdI (by omega) ?_
      refine num_eq (x := ((first + (2 * i + 2) : Nat) : Int)) (by rw [wrap64 (by omega) (by omega)]; omega) ?_
      refine idxI (first + (2 * i + 2)) (by omega) (by omega) ?_
      refine rdI (by omega) ?_
      refine call_gives (Less_spec _ _) ?_
      refine if_intro (fun hl => ?_) (fun hl => ?_)
      · rw [if_pos (by simpa using hl)] at hJ
        exact ret_plain ⟨rfl, rfl, by rw [hJ]⟩
      · rw [if_neg (by simpa using hl)] at hJ
        try rw [dif_pos (by omega)] at hJ
        refine num_eq (x := ((first + i : Nat) : Int)) (by rw [wrap64 (by omega) (by omega)]; omega) ?_
        refine num_eq (x := ((first + (2 * i + 2) : Nat) : Int)) (by rw [wrap64 (by omega) (by omega)]; omega) ?_
        refine num_eq (x := ((first + (2 * i + 2) : Nat) : Int)) (by rw [wrap64 (by omega) (by omega)]; omega) ?_
        refine idxI (first + (2 * i + 2)) (by omega) (by omega) ?_
        refine rdI (by omega) ?_
        refine num_eq (x := ((first + i : Nat) : Int)) (by rw [wrap64 (by omega) (by omega)]; omega) ?_
        refine idxI (first + i) (by omega) (by omega) ?_
        refine rdI (by omega) ?_
        refine idxI (first + i) (by omega) (by omega) ?_
        refine wrI (by omega) ?_
        refine idxI (first + (2 * i + 2)) (by omega) (by omega) ?_
        refine wrI (by simp; omega) ?_
        exact ⟨(2 * i + 2, swp d1 (first + i) (first + (2 * i + 2))), ⟨by dsimp only; omega, by dsimp only; rw [swp_size]; exact hs, hJ⟩, by dsimp only; omega, ⟨⟨rfl, rfl, rfl, rfl, trivial⟩, trivial, rfl, rfl⟩⟩
    · rw [hl, Bool.and_false, if_neg (by simp)] at hJ
      refine num_eq (x := ((first + i : Nat) : Int)) (by rw [wrap64 (by omega) (by omega)]; omega) ?_
      refine idxI (first + i) (by omega) (by omega) ?_
      refine rdI (by omega) ?_
      refine num_eq (x := ((first + (2 * i + 1) : Nat) : Int)) (by rw [wrap64 (by omega) (by omega)]; omega) ?_
      refine idxI (first + (2 * i + 1)) (by omega) (by omega) ?_
      refine rdI (by omega) ?_
      refine call_gives (Less_spec _ _) ?_
      refine if_intro (fun hl => ?_) (fun hl => ?_)
      · rw [if_pos (by simpa using hl)] at hJ
        exact ret_plain ⟨rfl, rfl, by rw [hJ]⟩
      · rw [if_neg (by simpa using hl)] at hJ
        try rw [dif_pos (by omega)] at hJ
        refine num_eq (x := ((first + i : Nat) : Int)) (by rw [wrap64 (by omega) (by omega)]; omega) ?_
        refine num_eq (x := ((first + (2 * i + 1) : Nat) : Int)) (by rw [wrap64 (by omega) (by omega)]; omega) ?_
        refine num_eq (x := ((first + (2 * i + 1) : Nat) : Int)) (by rw [wrap64 (by omega) (by omega)]; omega) ?_
        refine idxI (first + (2 * i + 1)) (by omega) (by omega) ?_
        refine rdI (by omega) ?_
        refine num_eq (x := ((first + i : Nat) : Int)) (by rw [wrap64 (by omega) (by omega)]; omega) ?_
        refine idxI (first + i) (by omega) (by omega) ?_
        refine rdI (by omega) ?_
        refine idxI (first + i) (by omega) (by omega) ?_
        refine wrI (by omega) ?_
        refine idxI (first + (2 * i + 1)) (by omega) (by omega) ?_
        refine wrI (by simp; omega) ?_
        exact ⟨(2 * i + 1, swp d1 (first + i) (first + (2 * i + 1))), ⟨by dsimp only; omega, by dsimp only; rw [swp_size]; exact hs, hJ⟩, by dsimp only; omega, ⟨⟨rfl, rfl, rfl, rfl, trivial⟩, trivial, rfl, rfl⟩⟩
  · have g : decide (2 * i + 1 + 1 < hi) = false := decide_eq_false (by omega)
    rw [g, Bool.false_and, if_neg (by simp)] at hJ
    refine num_eq (x := ((first + i : Nat) : Int)) (by rw [wrap64 (by omega) (by omega)]; omega) ?_
    refine idxI (first + i) (by omega) (by omega) ?_
    refine rdI (by omega) ?_
    refine num_eq (x := ((first + (2 * i + 1) : Nat) : Int)) (by rw [wrap64 (by omega) (by omega)]; omega) ?_
    refine idxI (first + (2 * i + 1)) (by omega) (by omega) ?_
    refine rdI (by omega) ?_
    refine call_gives (Less_spec _ _) ?_
    refine if_intro (fun hl => ?_) (fun hl => ?_)
    · rw [if_pos (by simpa using hl)] at hJ
      exact ret_plain ⟨rfl, rfl, by rw [hJ]⟩
    · rw [if_neg (by simpa using hl)] at hJ
      try rw [dif_pos (by omega)] at hJ
      refine num_eq (x := ((first + i : Nat) : Int)) (by rw [wrap64 (by omega) (by omega)]; omega) ?_
      refine num_eq (x := ((first + (2 * i + 1) : Nat) : Int)) (by rw [wrap64 (by omega) (by omega)]; omega) ?_
      refine num_eq (x := ((first + (2 * i + 1) : Nat) : Int)) (by rw [wrap64 (by omega) (by omega)]; omega) ?_
      refine idxI (first + (2 * i + 1)) (by omega) (by omega) ?_
      refine rdI (by omega) ?_
      refine num_eq (x := ((first + i : Nat) : Int)) (by rw [wrap64 (by omega) (by omega)]; omega) ?_
      refine idxI (first + i) (by omega) (by omega) ?_
      refine rdI (by omega) ?_
      refine idxI (first + i) (by omega) (by omega) ?_
      refine wrI (by omega) ?_
      refine idxI (first + (2 * i + 1)) (by omega) (by omega) ?_
      refine wrI (by simp; omega) ?_
      exact ⟨(2 * i + 1, swp d1 (first + i) (first + (2 * i + 1))), ⟨by dsimp only; omega, by dsimp only; rw [swp_size]; exact hs, hJ⟩, by dsimp only; omega, ⟨⟨rfl, rfl, rfl, rfl, trivial⟩, trivial, rfl, rfl⟩⟩
theorem siftDown_size (hi first : Nat) : ∀ (m root : Nat) (d : Array Int), hi - root ≤ m → (siftDown ltInt hi first root d).size = d.size := by
  intro m
  induction m with
  | zero =>
    intro root d h
    rw [siftDown, dif_pos (by omega)]
  | succ m ih =>
    intro root d h
    rw [siftDown]
    repeat' split
    all_goals first
      | rfl
      | (rw [ih _ _ (by omega), Go.Sort.swp_size])
theorem heapSort_spec {n a b : Nat} {cap : Nat} (hd : d.size = n) (ha : a < b) (hb : b ≤ n) (hn : n ≤ 1000000000000) :
    SpecH Try.prog 86 [.slice (some ⟨r, 0, none⟩) n cap, .int .i64 a, .int .i64 b] μ (RowI h0 r ty rest d) fun v μ' h' => v = .tuple #[] ∧ μ' = μ ∧ h' = RowI h0 r ty rest (heapSort ltInt d a b) := by
  refine SpecH.mk [] Try.func86 (by kernel_rfl) ?_
  rw [heapSort]
  generalize hD1 : heapBuild ltInt (b - a) a ((b - a - 1) / 2 + 1) d = D1
  generalize hD : heapPop ltInt a (b - a) D1 = D
  refine num_eq (x := ((b - a : Nat) : Int)) (by rw [wrap64 (by omega) (by omega)]; omega) ?_
  refine num_eq (x := ((b - a - 1 : Nat) : Int)) (by rw [wrap64 (by omega) (by omega)]; omega) ?_
  refine need_intro (by decide) ?_
  refine num_eq (x := (((b - a - 1) / 2 + 1 : Nat) : Int) - 1) (by rw [Int.tdiv_eq_ediv_of_nonneg (by omega), wrap64 (by omega) (by omega)]; omega) ?_
  refine loop_intro (fun p : Nat × Array Int => p.1 ≤ b - a ∧ p.2.size = n ∧ heapBuild ltInt (b - a) a p.1 p.2 = D1)
    (fun (k, d) => ⟨[(0, .val (.slice (some ⟨r, 0, none⟩) n cap)), (6, .val (.int .i64 a)), (7, .val (.int .i64 0)), (8, .val (.int .i64 (b - a : Nat))), (9, .val (.int .i64 ((k : Int) - 1)))], [], 0, μ, RowI h0 r ty rest d⟩) (fun p => p.1)
    ((b - a - 1) / 2 + 1, d) ⟨by dsimp only; omega, hd, hD1⟩ (fun (_, _) => ⟨rfl, rfl⟩) ⟨⟨rfl, rfl, rfl, rfl, rfl, trivial⟩, trivial, rfl, rfl⟩ ?_
  rintro ⟨k, d1⟩ ⟨hk, hs, hJ⟩
  dsimp only at hk hs hJ
  refine ifd (fun h => ?_) (fun h => ?_)
  · obtain ⟨k, rfl⟩ : ∃ m, k = m + 1 := ⟨k - 1, by omega⟩
    rw [heapBuild] at hJ
    have e : (((k + 1 : Nat) : Int) - 1) = (k : Nat) := by omega
    rw [e]
    refine call_own (siftDown_spec (lo := k) (hi := b - a) (first := a) hs (by omega) (by omega) hn) fun v μ' h' hle hap hR => ?_
    obtain ⟨rfl, e2, rfl⟩ := hR
    obtain rfl := e2.symm
    refine num_eq (x := (k : Int) - 1) (by rw [wrap64 (by omega) (by omega)]) ?_
    exact ⟨(k, siftDown ltInt (b - a) a k d1), ⟨by dsimp only; omega, by dsimp only; rw [siftDown_size _ _ _ _ _ (Nat.le_refl _)]; exact hs, hJ⟩, by dsimp only; omega, ⟨⟨rfl, rfl, rfl, rfl, rfl, trivial⟩, trivial, rfl, rfl⟩⟩
  obtain rfl : k = 0 := by omega
  have hJ : d1 = D1 := hJ
  subst hJ
  refine num_eq (x := ((b - a : Nat) : Int) - 1) (by rw [wrap64 (by omega) (by omega)]) ?_
  refine loop_intro (fun p : Nat × Array Int => p.1 ≤ b - a ∧ p.2.size = n ∧ heapPop ltInt a p.1 p.2 = D)
    (fun (k, d) => ⟨[(0, .val (.slice (some ⟨r, 0, none⟩) n cap)), (6, .val (.int .i64 a)), (7, .val (.int .i64 0)), (10, .val (.int .i64 ((k : Int) - 1)))], [], 0, μ, RowI h0 r ty rest d⟩) (fun p => p.1)
    (b - a, d1) ⟨by dsimp only; omega, hs, hD⟩ (fun (_, _) => ⟨rfl, rfl⟩) ⟨⟨rfl, rfl, rfl, rfl, trivial⟩, trivial, rfl, rfl⟩ ?_
  rintro ⟨k, d2⟩ ⟨hk, hs2, hJ⟩
  dsimp only at hk hs2 hJ
  refine ifd (fun h => ?_) (fun h => ?_)
  · obtain ⟨k, rfl⟩ : ∃ m, k = m + 1 := ⟨k - 1, by omega⟩
    rw [heapPop] at hJ
    have e : (((k + 1 : Nat) : Int) - 1) = (k : Nat) := by omega
    rw [e]
    refine num_eq (x := ((a + k : Nat) : Int)) (by rw [wrap64 (by omega) (by omega)]; omega) ?_
    refine num_eq (x := ((a + k : Nat) : Int)) (by rw [wrap64 (by omega) (by omega)]; omega) ?_
    refine idxI (a + k) (by omega) (by omega) ?_
    refine rdI (by omega) ?_
    refine idxI (a) (by omega) (by omega) ?_
    refine rdI (by omega) ?_
    refine idxI (a) (by omega) (by omega) ?_
    refine wrI (by omega) ?_
    refine idxI (a + k) (by omega) (by omega) ?_
    refine wrI (by simp; omega) ?_
    refine call_own (siftDown_spec (d := swp d2 a (a + k)) (lo := 0) (hi := k) (first := a) ((Go.Sort.swp_size _ _ _).trans hs2) (by omega) (by omega) hn) fun v μ' h' hle hap hR => ?_
    obtain ⟨rfl, e2, rfl⟩ := hR
    obtain rfl := e2.symm
    refine num_eq (x := (k : Int) - 1) (by rw [wrap64 (by omega) (by omega)]) ?_
    exact ⟨(k, _), ⟨by dsimp only; omega, by dsimp only; rw [siftDown_size _ _ _ _ _ (Nat.le_refl _), Go.Sort.swp_size]; exact hs2, hJ⟩, by dsimp only; omega, ⟨⟨rfl, rfl, rfl, rfl, trivial⟩, trivial, rfl, rfl⟩⟩
  obtain rfl : k = 0 := by omega
  have hJ : d2 = D := hJ
  subst hJ
  exact ret_plain ⟨rfl, rfl, rfl⟩
end
end Go.Vx

/- Contracts: the choice of a pivot. -/
namespace Go.Vx
open Go.Proofs Classical
open Go.Sort
/-- A row of numbers beside a counter. -/
def RowS (h0 : Mem) (r : Nat) (ty : TypeId) (rest : List Value) (d : Array Int) (rs : Nat) (s : Int) : Mem := RowI (h0.set rs (.cells #[.int .i64 s] 3 (0, 0))) r ty rest d
section
variable {μ h0 : Mem} {r rs : Nat} {ty : TypeId} {rest : List Value} {d : Array Int} {s : Int}
theorem RowS.at (hne : rs ≠ r) : RowS h0 r ty rest d rs s rs = some (.cells #[.int .i64 s] 3 (0, 0)) := by
  rw [RowS, RowI, Mem.set_ne hne, Mem.set_at]
theorem rdS {K : List Value → Prop} (hne : rs ≠ r) (h : K [.int .i64 s]) : extVC μ (RowS h0 r ty rest d rs s) ⟨rs, 0, none⟩ 1 K := own_intro _ rfl (box_at (RowS.at hne)) h
theorem Mem.set_comm {m : Mem} {a b : Nat} {x y : Obj} (h : a ≠ b) : (m.set a x).set b y = (m.set b y).set a x := by
  funext k
  simp only [Mem.set_get]
  by_cases h1 : k = b
  · subst h1; rw [if_pos rfl, if_neg (fun e => h e.symm), if_pos rfl]
  · rw [if_neg h1]
    by_cases h2 : k = a
    · rw [if_pos h2, if_pos h2]
    · rw [if_neg h2, if_neg h2, if_neg h1]
theorem wrS {v : Int} {K : Mem → Prop} (hne : rs ≠ r) (h : K (RowS h0 r ty rest d rs v)) : stoVC (RowS h0 r ty rest d rs s) ⟨rs, 0, none⟩ [.int .i64 v] K := by
  refine sto_intro [.int .i64 s] 3 (RowS.at hne) rfl (Nat.le_refl _) ?_
  have e : Mem.set (RowS h0 r ty rest d rs s) rs (.cells #[.int .i64 v] 3 (0, 0)) = RowS h0 r ty rest d rs v := by
    rw [RowS, RowI, Mem.set_comm (fun e => hne e.symm), Mem.set_set]
    rfl
  show K (Mem.set (RowS h0 r ty rest d rs s) rs (.cells #[.int .i64 v] 3 (0, 0)))
  rw [e]; exact h
theorem RowS.row (h0 : Mem) (r : Nat) (ty : TypeId) (rest : List Value) (d : Array Int) (rs : Nat) (s : Int) : RowS h0 r ty rest d rs s = RowI (h0.set rs (.cells #[.int .i64 s] 3 (0, 0))) r ty rest d := rfl
theorem order2_spec {n a b cap : Nat} (hne : rs ≠ r) (hd : d.size = n) (ha : a < n) (hb : b < n) :
    SpecH Try.prog 102 [.slice (some ⟨r, 0, none⟩) n cap, .int .i64 a, .int .i64 b, .pointer (some ⟨rs, 0, none⟩)] μ (RowS h0 r ty rest d rs s) fun v μ' h' =>
      ∃ x y : Nat, ((x = a ∧ y = b) ∨ (x = b ∧ y = a)) ∧ v = .tuple #[.int .i64 x, .int .i64 y] ∧ μ' = μ ∧ ∃ s', h' = RowS h0 r ty rest d rs s' := by
  refine SpecH.mk [] Try.func102 (by kernel_rfl) ?_
  refine idxI (b) (by omega) (by omega) ?_
  refine rdI (by omega) ?_
  refine idxI (a) (by omega) (by omega) ?_
  refine rdI (by omega) ?_
  refine call_gives (Less_spec _ _) ?_
  refine if_intro (fun hl => ?_) (fun hl => ?_)
  · refine rdS hne ?_
    refine num_intro fun x _ => ?_
    refine wrS hne ?_
    exact ret_plain ⟨b, a, .inr ⟨rfl, rfl⟩, rfl, rfl, _, rfl⟩
  · exact ret_plain ⟨a, b, .inl ⟨rfl, rfl⟩, rfl, rfl, _, rfl⟩
theorem median_spec {n a b c cap : Nat} (hne : rs ≠ r) (hd : d.size = n) (ha : a < n) (hb : b < n) (hc : c < n) :
    SpecH Try.prog 100 [.slice (some ⟨r, 0, none⟩) n cap, .int .i64 a, .int .i64 b, .int .i64 c, .pointer (some ⟨rs, 0, none⟩)] μ (RowS h0 r ty rest d rs s) fun v μ' h' =>
      ∃ x : Nat, (x = a ∨ x = b ∨ x = c) ∧ v = .int .i64 x ∧ μ' = μ ∧ ∃ s', h' = RowS h0 r ty rest d rs s' := by
  refine SpecH.mk [] Try.func100 (by kernel_rfl) ?_
  refine call_own (order2_spec hne hd ha hb) fun v μ' h' hle hap hR => ?_
  obtain ⟨x1, y1, o1, rfl, e1, s1, rfl⟩ := hR
  obtain rfl := e1.symm
  refine call_own (order2_spec (a := y1) (b := c) hne hd (by omega) hc) fun v μ' h' hle hap hR => ?_
  obtain ⟨x2, y2, o2, rfl, e2, s2, rfl⟩ := hR
  obtain rfl := e2.symm
  refine call_own (order2_spec (a := x1) (b := x2) hne hd (by omega) (by omega)) fun v μ' h' hle hap hR => ?_
  obtain ⟨x3, y3, o3, rfl, e3, s3, rfl⟩ := hR
  obtain rfl := e3.symm
  exact ret_plain ⟨y3, by omega, rfl, rfl, _, rfl⟩
theorem medianAdjacent_spec {n a cap : Nat} (hne : rs ≠ r) (hd : d.size = n) (ha : 1 ≤ a) (hb : a + 1 < n) (hn : n ≤ 1000000000000) :
    SpecH Try.prog 99 [.slice (some ⟨r, 0, none⟩) n cap, .int .i64 a, .pointer (some ⟨rs, 0, none⟩)] μ (RowS h0 r ty rest d rs s) fun v μ' h' =>
      ∃ x : Nat, (x + 1 = a ∨ x = a ∨ x = a + 1) ∧ v = .int .i64 x ∧ μ' = μ ∧ ∃ s', h' = RowS h0 r ty rest d rs s' := by
  refine SpecH.mk [] Try.func99 (by kernel_rfl) ?_
  refine num_eq (x := ((a - 1 : Nat) : Int)) (by rw [wrap64 (by omega) (by omega)]; omega) ?_
  refine num_eq (x := ((a + 1 : Nat) : Int)) (by rw [wrap64 (by omega) (by omega)]; omega) ?_
  refine call_own (median_spec (a := a - 1) (b := a) (c := a + 1) hne hd (by omega) (by omega) (by omega)) fun v μ' h' hle hap hR => ?_
  obtain ⟨x1, o1, rfl, e1, s1, rfl⟩ := hR
  obtain rfl := e1.symm
  exact ret_plain ⟨x1, by omega, rfl, rfl, _, rfl⟩
theorem RowS.parts (hne : rs ≠ r) (hs : h0 rs = none) : Parts (RowS h0 r ty rest d rs s) (Mem.nil.set rs (.cells #[.int .i64 s] 3 (0, 0))) (RowI h0 r ty rest d) := fun b => by
  by_cases h : b = rs
  · subst h
    exact .inl ⟨by rw [RowS.at hne, Mem.set_at], by rw [RowI, Mem.set_ne hne]; exact hs⟩
  · refine .inr ⟨?_, by rw [Mem.set_ne h]; rfl⟩
    rw [RowS, RowI, RowI]
    by_cases h2 : b = r
    · subst h2; rw [Mem.set_at, Mem.set_at]
    · rw [Mem.set_ne h2, Mem.set_ne h2, Mem.set_ne h]
set_option maxHeartbeats 4000000 in
theorem choosePivot_spec {n a b cap : Nat} (hr : h0 r = none) (hd : d.size = n) (ha : a < b) (hb : b ≤ n) (hn : n ≤ 1000000000000) :
    SpecH Try.prog 88 [.slice (some ⟨r, 0, none⟩) n cap, .int .i64 a, .int .i64 b] μ (RowI h0 r ty rest d) fun v μ' h' =>
      ∃ p k : Nat, a ≤ p ∧ p < b ∧ k ≤ 2 ∧ v = .tuple #[.int .i64 p, .int .i64 k] ∧ h' = RowI h0 r ty rest d := by
  refine SpecH.mk [9] Try.func88 (by kernel_rfl) ?_
  refine num_eq (x := ((b - a : Nat) : Int)) (by rw [wrap64 (by omega) (by omega)]; omega) ?_
  intro rs hm ho
  have hne : rs ≠ r := fun e => by
    subst e
    have : RowI h0 rs ty rest d rs = none := ho
    rw [RowI, Mem.set_at] at this; cases this
  have hs0 : h0 rs = none := by
    have : RowI h0 r ty rest d rs = none := ho
    rwa [RowI, Mem.set_ne hne] at this
  have e0 : Mem.set (RowI h0 r ty rest d) rs (.cells #[.int .i64 0] 3 (0, 0)) = RowS h0 r ty rest d rs 0 := by
    rw [RowS, RowI, RowI, Mem.set_comm (fun e => hne e.symm)]
  generalize hH : Mem.set (RowI h0 r ty rest d) rs _ = H
  obtain rfl : H = RowS h0 r ty rest d rs 0 := hH.symm.trans e0
  clear e0 hH ho hm
  refine need_intro (by decide) ?_
  refine num_eq (x := (((b - a) / 4 : Nat) : Int)) (by rw [Int.tdiv_eq_ediv_of_nonneg (by omega), wrap64 (by omega) (by omega)]; omega) ?_
  refine num_eq (x := (((b - a) / 4 * 1 : Nat) : Int)) (by rw [wrap64 (by omega) (by omega)]; omega) ?_
  refine num_eq (x := ((a + (b - a) / 4 * 1 : Nat) : Int)) (by rw [wrap64 (by omega) (by omega)]; omega) ?_
  refine need_intro (by decide) ?_
  refine num_eq (x := (((b - a) / 4 : Nat) : Int)) (by rw [Int.tdiv_eq_ediv_of_nonneg (by omega), wrap64 (by omega) (by omega)]; omega) ?_
  refine num_eq (x := (((b - a) / 4 * 2 : Nat) : Int)) (by rw [wrap64 (by omega) (by omega)]; omega) ?_
  refine num_eq (x := ((a + (b - a) / 4 * 2 : Nat) : Int)) (by rw [wrap64 (by omega) (by omega)]; omega) ?_
  refine need_intro (by decide) ?_
  refine num_eq (x := (((b - a) / 4 : Nat) : Int)) (by rw [Int.tdiv_eq_ediv_of_nonneg (by omega), wrap64 (by omega) (by omega)]; omega) ?_
  refine num_eq (x := (((b - a) / 4 * 3 : Nat) : Int)) (by rw [wrap64 (by omega) (by omega)]; omega) ?_
  refine num_eq (x := ((a + (b - a) / 4 * 3 : Nat) : Int)) (by rw [wrap64 (by omega) (by omega)]; omega) ?_
  refine ifd (fun h8 => ?_) (fun h8 => ?_)
  · refine ifd (fun h50 => ?_) (fun h50 => ?_)
    · refine call_own (medianAdjacent_spec (a := a + (b - a) / 4 * 1) hne hd (by omega) (by omega) hn) fun v μ' h' hle hap hR => ?_
      obtain ⟨x1, o1, rfl, e1, s1, rfl⟩ := hR
      obtain rfl := e1.symm
      refine call_own (medianAdjacent_spec (a := a + (b - a) / 4 * 2) hne hd (by omega) (by omega) hn) fun v μ' h' hle hap hR => ?_
      obtain ⟨x2, o2, rfl, e1, s2, rfl⟩ := hR
      obtain rfl := e1.symm
      refine call_own (medianAdjacent_spec (a := a + (b - a) / 4 * 3) hne hd (by omega) (by omega) hn) fun v μ' h' hle hap hR => ?_
      obtain ⟨x3, o3, rfl, e1, s3, rfl⟩ := hR
      obtain rfl := e1.symm
      refine call_own (median_spec (a := x1) (b := x2) (c := x3) hne hd (by omega) (by omega) (by omega)) fun v μ' h' hle hap hR => ?_
      obtain ⟨x4, o4, rfl, e1, s4, rfl⟩ := hR
      obtain rfl := e1.symm
      refine rdS hne ?_
      refine ifd (fun h1 => ?_) (fun h1 => ?_)
      · exact ret_own _ _ (RowS.parts hne hs0) ⟨x4, 1, by omega, by omega, by omega, rfl, rfl⟩
      refine ifd (fun h1 => ?_) (fun h1 => ?_)
      · exact ret_own _ _ (RowS.parts hne hs0) ⟨x4, 2, by omega, by omega, by omega, rfl, rfl⟩
      exact ret_own _ _ (RowS.parts hne hs0) ⟨x4, 0, by omega, by omega, by omega, rfl, rfl⟩
    · refine call_own (median_spec (a := a + (b - a) / 4 * 1) (b := a + (b - a) / 4 * 2) (c := a + (b - a) / 4 * 3) hne hd (by omega) (by omega) (by omega)) fun v μ' h' hle hap hR => ?_
      obtain ⟨x4, o4, rfl, e1, s4, rfl⟩ := hR
      obtain rfl := e1.symm
      refine rdS hne ?_
      refine ifd (fun h1 => ?_) (fun h1 => ?_)
      · exact ret_own _ _ (RowS.parts hne hs0) ⟨x4, 1, by omega, by omega, by omega, rfl, rfl⟩
      refine ifd (fun h1 => ?_) (fun h1 => ?_)
      · exact ret_own _ _ (RowS.parts hne hs0) ⟨x4, 2, by omega, by omega, by omega, rfl, rfl⟩
      exact ret_own _ _ (RowS.parts hne hs0) ⟨x4, 0, by omega, by omega, by omega, rfl, rfl⟩
  · refine rdS hne ?_
    refine ifd (fun h1 => ?_) (fun h1 => ?_)
    · exact ret_own _ _ (RowS.parts hne hs0) ⟨a + (b - a) / 4 * 2, 1, by omega, by omega, by omega, rfl, rfl⟩
    refine ifd (fun h1 => ?_) (fun h1 => ?_)
    · exact ret_own _ _ (RowS.parts hne hs0) ⟨a + (b - a) / 4 * 2, 2, by omega, by omega, by omega, rfl, rfl⟩
    exact ret_own _ _ (RowS.parts hne hs0) ⟨a + (b - a) / 4 * 2, 0, by omega, by omega, by omega, rfl, rfl⟩
end
end Go.Vx

/- Contracts: lengths in bits. -/
namespace Go.Vx
open Go.Proofs Classical
open Go.Sort
theorem bitsLen_shift {x k : Nat} (h : 2 ^ k ≤ x) : bitsLen x = bitsLen (x / 2 ^ k) + k := by
  have hpos : 0 < 2 ^ k := Nat.two_pow_pos k
  apply Nat.le_antisymm
  · rw [bitsLen_le_iff, Nat.pow_add]
    have := lt_two_pow_bitsLen (x / 2 ^ k)
    rw [Nat.div_lt_iff_lt_mul hpos] at this
    exact this
  · have h1 : k < bitsLen x := by
      rcases Nat.lt_or_ge k (bitsLen x) with h2 | h2
      · exact h2
      · have := (bitsLen_le_iff x k).1 h2; omega
    have h3 : bitsLen (x / 2 ^ k) ≤ bitsLen x - k := by
      rw [bitsLen_le_iff, Nat.div_lt_iff_lt_mul hpos, ← Nat.pow_add]
      have : bitsLen x - k + k = bitsLen x := by omega
      rw [this]; exact lt_two_pow_bitsLen x
    omega
section
variable {μ : Mem}
theorem Len64_spec {x : Nat} (hx : x < 18446744073709551616) : Gives Try.prog 95 [.int .u64 x] μ (.int .i64 (bitsLen x)) := by
  obtain ⟨L, hL⟩ : ∃ L, L = bitsLen x := ⟨_, rfl⟩
  rw [← hL]
  refine Spec.mk Try.func95 (by kernel_rfl) ?_
  refine ifd (fun h1 => ?_) (fun h1 => ?_)
  · refine need_intro (by decide) ?_
    refine num_eq (x := ((x / 4294967296 : Nat) : Int)) (by
      show (x : Int).fdiv 4294967296 = _
      rw [Int.fdiv_eq_ediv_of_nonneg _ (by decide)]; rfl) ?_
    have b1 : bitsLen x = bitsLen (x / 4294967296) + 32 := bitsLen_shift (k := 32) (by omega)
    have b2 : x / 4294967296 < 4294967296 := by omega
    generalize x / 4294967296 = y at *
    refine ifd (fun h2 => ?_) (fun h2 => ?_)
    · refine need_intro (by decide) ?_
      refine num_eq (x := ((y / 65536 : Nat) : Int)) (by
        show (y : Int).fdiv 65536 = _
        rw [Int.fdiv_eq_ediv_of_nonneg _ (by decide)]; rfl) ?_
      have b3 : bitsLen y = bitsLen (y / 65536) + 16 := bitsLen_shift (k := 16) (by omega)
      have b4 : y / 65536 < 65536 := by omega
      generalize y / 65536 = z at *
      refine num_eq (x := 32 + 16) (by decide) ?_
      refine ifd (fun h3 => ?_) (fun h3 => ?_)
      · refine need_intro (by decide) ?_
        refine num_eq (x := ((z / 256 : Nat) : Int)) (by
          show (z : Int).fdiv 256 = _
          rw [Int.fdiv_eq_ediv_of_nonneg _ (by decide)]; rfl) ?_
        have b5 : bitsLen z = bitsLen (z / 256) + 8 := bitsLen_shift (k := 8) (by omega)
        have b6 : z / 256 < 256 := by omega
        generalize z / 256 = w at *
        refine num_eq (x := 32 + 16 + 8) (by decide) ?_
        have b7 : bitsLen w ≤ 8 := (bitsLen_le_iff w 8).2 b6
        refine num_eq (x := (w : Int)) (by
          show (w : Int) % 256 = _
          omega) ?_
        refine byte_intro w (UInt8.ofNat (bitsLen w)) rfl ?_ ?_
        · clear b5 b7
          try clear hw
          revert w
          decide +kernel
        refine num_eq (x := (bitsLen w : Int)) (by
          rw [UInt8.toNat_ofNat', Nat.mod_eq_of_lt (by omega), wrap64 (by omega) (by omega)]) ?_
        refine num_eq (x := (L : Int)) (by rw [wrap64 (by omega) (by omega)]; omega) ?_
        exact ret_gives rfl rfl
      · obtain ⟨w, hw⟩ : ∃ w, w = z := ⟨_, rfl⟩
        have b5 : bitsLen z = bitsLen w + 0 := by rw [hw]; rfl
        have b6 : w < 256 := by omega
        rw [← hw]
        have b7 : bitsLen w ≤ 8 := (bitsLen_le_iff w 8).2 b6
        refine num_eq (x := (w : Int)) (by
          show (w : Int) % 256 = _
          omega) ?_
        refine byte_intro w (UInt8.ofNat (bitsLen w)) rfl ?_ ?_
        · clear b5 b7
          try clear hw
          revert w
          decide +kernel
        refine num_eq (x := (bitsLen w : Int)) (by
          rw [UInt8.toNat_ofNat', Nat.mod_eq_of_lt (by omega), wrap64 (by omega) (by omega)]) ?_
        refine num_eq (x := (L : Int)) (by rw [wrap64 (by omega) (by omega)]; omega) ?_
        exact ret_gives rfl rfl
    · obtain ⟨z, hz⟩ : ∃ z, z = y := ⟨_, rfl⟩
      have b3 : bitsLen y = bitsLen z + 0 := by rw [hz]; rfl
      have b4 : z < 65536 := by omega
      rw [← hz]
      refine ifd (fun h3 => ?_) (fun h3 => ?_)
      · refine need_intro (by decide) ?_
        refine num_eq (x := ((z / 256 : Nat) : Int)) (by
          show (z : Int).fdiv 256 = _
          rw [Int.fdiv_eq_ediv_of_nonneg _ (by decide)]; rfl) ?_
        have b5 : bitsLen z = bitsLen (z / 256) + 8 := bitsLen_shift (k := 8) (by omega)
        have b6 : z / 256 < 256 := by omega
        generalize z / 256 = w at *
        refine num_eq (x := 32 + 8) (by decide) ?_
        have b7 : bitsLen w ≤ 8 := (bitsLen_le_iff w 8).2 b6
        refine num_eq (x := (w : Int)) (by
          show (w : Int) % 256 = _
          omega) ?_
        refine byte_intro w (UInt8.ofNat (bitsLen w)) rfl ?_ ?_
        · clear b5 b7
          try clear hw
          revert w
          decide +kernel
        refine num_eq (x := (bitsLen w : Int)) (by
          rw [UInt8.toNat_ofNat', Nat.mod_eq_of_lt (by omega), wrap64 (by omega) (by omega)]) ?_
        refine num_eq (x := (L : Int)) (by rw [wrap64 (by omega) (by omega)]; omega) ?_
        exact ret_gives rfl rfl
      · obtain ⟨w, hw⟩ : ∃ w, w = z := ⟨_, rfl⟩
        have b5 : bitsLen z = bitsLen w + 0 := by rw [hw]; rfl
        have b6 : w < 256 := by omega
        rw [← hw]
        have b7 : bitsLen w ≤ 8 := (bitsLen_le_iff w 8).2 b6
        refine num_eq (x := (w : Int)) (by
          show (w : Int) % 256 = _
          omega) ?_
        refine byte_intro w (UInt8.ofNat (bitsLen w)) rfl ?_ ?_
        · clear b5 b7
          try clear hw
          revert w
          decide +kernel
        refine num_eq (x := (bitsLen w : Int)) (by
          rw [UInt8.toNat_ofNat', Nat.mod_eq_of_lt (by omega), wrap64 (by omega) (by omega)]) ?_
        refine num_eq (x := (L : Int)) (by rw [wrap64 (by omega) (by omega)]; omega) ?_
        exact ret_gives rfl rfl
  · obtain ⟨y, hy⟩ : ∃ y, y = x := ⟨_, rfl⟩
    have b1 : bitsLen x = bitsLen y + 0 := by rw [hy]; rfl
    have b2 : y < 4294967296 := by omega
    rw [← hy]
    refine ifd (fun h2 => ?_) (fun h2 => ?_)
    · refine need_intro (by decide) ?_
      refine num_eq (x := ((y / 65536 : Nat) : Int)) (by
        show (y : Int).fdiv 65536 = _
        rw [Int.fdiv_eq_ediv_of_nonneg _ (by decide)]; rfl) ?_
      have b3 : bitsLen y = bitsLen (y / 65536) + 16 := bitsLen_shift (k := 16) (by omega)
      have b4 : y / 65536 < 65536 := by omega
      generalize y / 65536 = z at *
      refine num_eq (x := 0 + 16) (by decide) ?_
      refine ifd (fun h3 => ?_) (fun h3 => ?_)
      · refine need_intro (by decide) ?_
        refine num_eq (x := ((z / 256 : Nat) : Int)) (by
          show (z : Int).fdiv 256 = _
          rw [Int.fdiv_eq_ediv_of_nonneg _ (by decide)]; rfl) ?_
        have b5 : bitsLen z = bitsLen (z / 256) + 8 := bitsLen_shift (k := 8) (by omega)
        have b6 : z / 256 < 256 := by omega
        generalize z / 256 = w at *
        refine num_eq (x := 0 + 16 + 8) (by decide) ?_
        have b7 : bitsLen w ≤ 8 := (bitsLen_le_iff w 8).2 b6
        refine num_eq (x := (w : Int)) (by
          show (w : Int) % 256 = _
          omega) ?_
        refine byte_intro w (UInt8.ofNat (bitsLen w)) rfl ?_ ?_
        · clear b5 b7
          try clear hw
          revert w
          decide +kernel
        refine num_eq (x := (bitsLen w : Int)) (by
          rw [UInt8.toNat_ofNat', Nat.mod_eq_of_lt (by omega), wrap64 (by omega) (by omega)]) ?_
        refine num_eq (x := (L : Int)) (by rw [wrap64 (by omega) (by omega)]; omega) ?_
        exact ret_gives rfl rfl
      · obtain ⟨w, hw⟩ : ∃ w, w = z := ⟨_, rfl⟩
        have b5 : bitsLen z = bitsLen w + 0 := by rw [hw]; rfl
        have b6 : w < 256 := by omega
        rw [← hw]
        have b7 : bitsLen w ≤ 8 := (bitsLen_le_iff w 8).2 b6
        refine num_eq (x := (w : Int)) (by
          show (w : Int) % 256 = _
          omega) ?_
        refine byte_intro w (UInt8.ofNat (bitsLen w)) rfl ?_ ?_
        · clear b5 b7
          try clear hw
          revert w
          decide +kernel
        refine num_eq (x := (bitsLen w : Int)) (by
          rw [UInt8.toNat_ofNat', Nat.mod_eq_of_lt (by omega), wrap64 (by omega) (by omega)]) ?_
        refine num_eq (x := (L : Int)) (by rw [wrap64 (by omega) (by omega)]; omega) ?_
        exact ret_gives rfl rfl
    · obtain ⟨z, hz⟩ : ∃ z, z = y := ⟨_, rfl⟩
      have b3 : bitsLen y = bitsLen z + 0 := by rw [hz]; rfl
      have b4 : z < 65536 := by omega
      rw [← hz]
      refine ifd (fun h3 => ?_) (fun h3 => ?_)
      · refine need_intro (by decide) ?_
        refine num_eq (x := ((z / 256 : Nat) : Int)) (by
          show (z : Int).fdiv 256 = _
          rw [Int.fdiv_eq_ediv_of_nonneg _ (by decide)]; rfl) ?_
        have b5 : bitsLen z = bitsLen (z / 256) + 8 := bitsLen_shift (k := 8) (by omega)
        have b6 : z / 256 < 256 := by omega
        generalize z / 256 = w at *
        refine num_eq (x := 0 + 8) (by decide) ?_
        have b7 : bitsLen w ≤ 8 := (bitsLen_le_iff w 8).2 b6
        refine num_eq (x := (w : Int)) (by
          show (w : Int) % 256 = _
          omega) ?_
        refine byte_intro w (UInt8.ofNat (bitsLen w)) rfl ?_ ?_
        · clear b5 b7
          try clear hw
          revert w
          decide +kernel
        refine num_eq (x := (bitsLen w : Int)) (by
          rw [UInt8.toNat_ofNat', Nat.mod_eq_of_lt (by omega), wrap64 (by omega) (by omega)]) ?_
        refine num_eq (x := (L : Int)) (by rw [wrap64 (by omega) (by omega)]; omega) ?_
        exact ret_gives rfl rfl
      · obtain ⟨w, hw⟩ : ∃ w, w = z := ⟨_, rfl⟩
        have b5 : bitsLen z = bitsLen w + 0 := by rw [hw]; rfl
        have b6 : w < 256 := by omega
        rw [← hw]
        have b7 : bitsLen w ≤ 8 := (bitsLen_le_iff w 8).2 b6
        refine num_eq (x := (w : Int)) (by
          show (w : Int) % 256 = _
          omega) ?_
        refine byte_intro w (UInt8.ofNat (bitsLen w)) rfl ?_ ?_
        · clear b5 b7
          try clear hw
          revert w
          decide +kernel
        refine num_eq (x := (bitsLen w : Int)) (by
          rw [UInt8.toNat_ofNat', Nat.mod_eq_of_lt (by omega), wrap64 (by omega) (by omega)]) ?_
        refine num_eq (x := (L : Int)) (by rw [wrap64 (by omega) (by omega)]; omega) ?_
        exact ret_gives rfl rfl
theorem Len_spec {x : Nat} (hx : x < 18446744073709551616) : Gives Try.prog 84 [.int .u64 x] μ (.int .i64 (bitsLen x)) := by
  refine Spec.mk Try.func84 (by kernel_rfl) ?_
  refine call_gives (Len64_spec hx) ?_
  exact ret_gives rfl rfl
theorem and_le {x m : Int} (h0 : 0 ≤ m) (h1 : m < 18446744073709551616) : 0 ≤ bits .and .u64 x m ∧ bits .and .u64 x m ≤ m := by
  have e : bits .and .u64 x m = (((BitVec.ofInt 64 x &&& BitVec.ofInt 64 m).toNat : Nat) : Int) % 18446744073709551616 := rfl
  have h2 : (BitVec.ofInt 64 m).toNat = m.toNat := by
    rw [BitVec.toNat_ofInt]
    congr 1
    exact Int.emod_eq_of_lt h0 h1
  have h3 : (BitVec.ofInt 64 x &&& BitVec.ofInt 64 m).toNat ≤ m.toNat := by
    rw [BitVec.toNat_and, h2]
    exact Nat.and_le_right
  rw [e]
  omega
end
end Go.Vx

/- Contracts: lengths in bits; patterns broken. -/
namespace Go.Vx
open Go.Proofs Classical
open Go.Sort
section
variable {μ h0 : Mem} {r rs : Nat} {ty : TypeId} {rest : List Value} {d : Array Int} {s : Int}
theorem nextPowerOfTwo_spec {x : Nat} (hx : x ≤ 1000000000000) : Gives Try.prog 97 [.int .i64 x] μ (.int .u64 ((2 ^ bitsLen x : Nat) : Int)) := by
  refine Spec.mk Try.func97 (by kernel_rfl) ?_
  have h1 : bitsLen x ≤ 40 := (bitsLen_le_iff x 40).2 (by omega)
  have h2 : 2 ^ bitsLen x ≤ 2 ^ 40 := Nat.pow_le_pow_right (by decide) h1
  have h3 : (2 : Nat) ^ 40 = 1099511627776 := by decide
  refine num_eq (x := (x : Int)) (by
    show (x : Int) % 18446744073709551616 = _
    omega) ?_
  refine call_gives (Len_spec (by omega)) ?_
  refine need_intro (by omega) ?_
  refine num_eq (x := ((2 ^ bitsLen x : Nat) : Int)) (by
    have e : min ((bitsLen x : Int).toNat) IntKind.u64.bits = bitsLen x := by
      show min ((bitsLen x : Int).toNat) 64 = bitsLen x
      omega
    rw [e]
    have h4 : ((2 : Int) ^ bitsLen x) = ((2 ^ bitsLen x : Nat) : Int) := by rw [Int.natCast_pow]; rfl
    show (1 * (2 : Int) ^ bitsLen x) % 18446744073709551616 = _
    rw [Int.one_mul, h4]
    generalize 2 ^ bitsLen x = P at *
    omega) ?_
  exact ret_gives rfl rfl
/-- A row of numbers beside a state of the generator. -/
def RowX (h0 : Mem) (r : Nat) (ty : TypeId) (rest : List Value) (d : Array Int) (rs : Nat) (s : Int) : Mem := RowI (h0.set rs (.cells #[.int .u64 s] 124 (0, 0))) r ty rest d
theorem RowX.at (hne : rs ≠ r) : RowX h0 r ty rest d rs s rs = some (.cells #[.int .u64 s] 124 (0, 0)) := by
  rw [RowX, RowI, Mem.set_ne hne, Mem.set_at]
theorem rdX {K : List Value → Prop} (hne : rs ≠ r) (h : K [.int .u64 s]) : extVC μ (RowX h0 r ty rest d rs s) ⟨rs, 0, none⟩ 1 K := own_intro _ rfl (box_at (RowX.at hne)) h
theorem wrX {v : Int} {K : Mem → Prop} (hne : rs ≠ r) (h : K (RowX h0 r ty rest d rs v)) : stoVC (RowX h0 r ty rest d rs s) ⟨rs, 0, none⟩ [.int .u64 v] K := by
  refine sto_intro [.int .u64 s] 124 (RowX.at hne) rfl (Nat.le_refl _) ?_
  have e : Mem.set (RowX h0 r ty rest d rs s) rs (.cells #[.int .u64 v] 124 (0, 0)) = RowX h0 r ty rest d rs v := by
    rw [RowX, RowI, Mem.set_comm (fun e => hne e.symm), Mem.set_set]
    rfl
  show K (Mem.set (RowX h0 r ty rest d rs s) rs (.cells #[.int .u64 v] 124 (0, 0)))
  rw [e]; exact h
theorem RowX.parts (hne : rs ≠ r) (hs : h0 rs = none) : Parts (RowX h0 r ty rest d rs s) (Mem.nil.set rs (.cells #[.int .u64 s] 124 (0, 0))) (RowI h0 r ty rest d) := fun b => by
  by_cases h : b = rs
  · subst h
    exact .inl ⟨by rw [RowX.at hne, Mem.set_at], by rw [RowI, Mem.set_ne hne]; exact hs⟩
  · refine .inr ⟨?_, by rw [Mem.set_ne h]; rfl⟩
    rw [RowX, RowI, RowI]
    by_cases h2 : b = r
    · subst h2; rw [Mem.set_at, Mem.set_at]
    · rw [Mem.set_ne h2, Mem.set_ne h2, Mem.set_ne h]
theorem Next_spec (hne : rs ≠ r) : SpecH Try.prog 98 [.pointer (some ⟨rs, 0, none⟩)] μ (RowX h0 r ty rest d rs s) fun v μ' h' => ∃ s', v = .int .u64 s' ∧ μ' = μ ∧ h' = RowX h0 r ty rest d rs s' := by
  refine SpecH.mk [] Try.func98 (by kernel_rfl) ?_
  refine rdX hne ?_
  refine rdX hne ?_
  refine need_intro (by decide) ?_
  refine num_intro fun _ _ => ?_
  refine num_intro fun _ _ => ?_
  refine wrX hne ?_
  refine rdX hne ?_
  refine rdX hne ?_
  refine need_intro (by decide) ?_
  refine num_intro fun _ _ => ?_
  refine num_intro fun _ _ => ?_
  refine wrX hne ?_
  refine rdX hne ?_
  refine rdX hne ?_
  refine need_intro (by decide) ?_
  refine num_intro fun _ _ => ?_
  refine num_intro fun _ _ => ?_
  refine wrX hne ?_
  refine rdX hne ?_
  exact ret_plain ⟨_, rfl, rfl, rfl⟩
theorem breakPatterns_spec {n a b cap : Nat} (hr : h0 r = none) (hd : d.size = n) (ha : a + 8 ≤ b) (hb : b ≤ n) (hn : n ≤ 1000000000000) :
    SpecH Try.prog 87 [.slice (some ⟨r, 0, none⟩) n cap, .int .i64 a, .int .i64 b] μ (RowI h0 r ty rest d) fun v μ' h' => v = .tuple #[] ∧ ∃ d', PermIn a b d d' ∧ h' = RowI h0 r ty rest d' := by
  refine SpecH.mk [7] Try.func87 (by kernel_rfl) ?_
  refine num_eq (x := ((b - a : Nat) : Int)) (by rw [wrap64 (by omega) (by omega)]; omega) ?_
  refine ifd (fun h8 => ?_) (fun h8 => by omega)
  refine num_intro fun s0 _ => ?_
  intro rs hm ho
  have hne : rs ≠ r := fun e => by
    subst e
    have : RowI h0 rs ty rest d rs = none := ho
    rw [RowI, Mem.set_at] at this; cases this
  have hs0 : h0 rs = none := by
    have : RowI h0 r ty rest d rs = none := ho
    rwa [RowI, Mem.set_ne hne] at this
  have e0 : Mem.set (RowI h0 r ty rest d) rs (.cells #[.int .u64 0] 124 (0, 0)) = RowX h0 r ty rest d rs 0 := by
    rw [RowX, RowI, RowI, Mem.set_comm (fun e => hne e.symm)]
  generalize hH : Mem.set (RowI h0 r ty rest d) rs _ = H
  obtain rfl : H = RowX h0 r ty rest d rs 0 := hH.symm.trans e0
  clear e0 hH ho hm
  refine wrX hne ?_
  refine call_gives (nextPowerOfTwo_spec (x := b - a) (by omega)) ?_
  have hP1 : 1 ≤ 2 ^ bitsLen (b - a) := Nat.two_pow_pos _
  have hP2 : 2 ^ bitsLen (b - a) ≤ 2 * (b - a) := two_pow_bitsLen_le (by omega)
  generalize 2 ^ bitsLen (b - a) = P at *
  refine need_intro (by decide) ?_
  refine num_eq (x := (((b - a) / 4 : Nat) : Int)) (by rw [Int.tdiv_eq_ediv_of_nonneg (by omega), wrap64 (by omega) (by omega)]; omega) ?_
  refine num_eq (x := (((b - a) / 4 * 2 : Nat) : Int)) (by rw [wrap64 (by omega) (by omega)]; omega) ?_
  refine num_eq (x := ((a + (b - a) / 4 * 2 : Nat) : Int)) (by rw [wrap64 (by omega) (by omega)]; omega) ?_
  refine num_eq (x := ((a + (b - a) / 4 * 2 - 1 : Nat) : Int)) (by rw [wrap64 (by omega) (by omega)]; omega) ?_
  refine loop_intro (fun p : Nat × Array Int × Int => a + (b - a) / 4 * 2 ≤ p.1 + 1 ∧ p.1 ≤ a + (b - a) / 4 * 2 + 2 ∧ PermIn a b d p.2.1)
    (fun (i, d, s) => ⟨[(0, .val (.slice (some ⟨r, 0, none⟩) n cap)), (1, .val (.int .i64 a)), (6, .val (.int .i64 (b - a : Nat))), (7, .val (.pointer (some ⟨rs, 0, none⟩))), (8, .val (.int .u64 P)), (9, .val (.int .i64 i))], [], 0, μ, RowX h0 r ty rest d rs s⟩) (fun p => a + (b - a) / 4 * 2 + 3 - p.1)
    (a + (b - a) / 4 * 2 - 1, d, s0) ⟨by dsimp only; omega, by dsimp only; omega, permIn_refl _ _ _⟩ (fun (_, _, _) => ⟨rfl, rfl⟩) ⟨⟨rfl, rfl, rfl, rfl, rfl, rfl, trivial⟩, trivial, rfl, rfl⟩ ?_
  rintro ⟨i, d1, s1⟩ ⟨hi1, hi2, hp⟩
  dsimp only at hi1 hi2 hp
  have hs1 : d1.size = n := hp.1.trans hd
  refine need_intro (by decide) ?_
  refine num_eq (x := (((b - a) / 4 : Nat) : Int)) (by rw [Int.tdiv_eq_ediv_of_nonneg (by omega), wrap64 (by omega) (by omega)]; omega) ?_
  refine num_eq (x := (((b - a) / 4 * 2 : Nat) : Int)) (by rw [wrap64 (by omega) (by omega)]; omega) ?_
  refine num_eq (x := ((a + (b - a) / 4 * 2 : Nat) : Int)) (by rw [wrap64 (by omega) (by omega)]; omega) ?_
  refine num_eq (x := ((a + (b - a) / 4 * 2 + 1 : Nat) : Int)) (by rw [wrap64 (by omega) (by omega)]; omega) ?_
  refine ifd (fun hle => ?_) (fun hle => ?_)
  rotate_left
  · exact ret_own _ _ (RowX.parts hne hs0) ⟨rfl, d1, hp, rfl⟩
  refine call_own (Next_spec hne) fun v μ' h' hle' hap hR => ?_
  obtain ⟨s2, rfl, e1, rfl⟩ := hR
  obtain rfl := e1.symm
  refine num_eq (x := ((P - 1 : Nat) : Int)) (by
    show ((P : Int) - 1) % 18446744073709551616 = _
    omega) ?_
  refine num_intro fun y hy => ?_
  obtain ⟨hy1, hy2⟩ := and_le (x := s2) (m := ((P - 1 : Nat) : Int)) (by omega) (by omega)
  rw [← hy] at hy1 hy2
  obtain ⟨o, rfl⟩ := Int.eq_ofNat_of_zero_le hy1
  clear hy
  refine num_eq (x := (o : Int)) (wrap64 (by omega) (by omega)) ?_
  refine ifd (fun ho => ?_) (fun ho => ?_)
  · refine num_eq (x := ((o - (b - a) : Nat) : Int)) (by rw [wrap64 (by omega) (by omega)]; omega) ?_
    have ho2 : o - (b - a) < b - a := by omega
    generalize o - (b - a) = q at *
    refine num_eq (x := ((a + q : Nat) : Int)) (by rw [wrap64 (by omega) (by omega)]; omega) ?_
    refine num_eq (x := ((a + q : Nat) : Int)) (by rw [wrap64 (by omega) (by omega)]; omega) ?_
    refine idxI (a + q) (by omega) (by omega) ?_
    refine rdI (by omega) ?_
    refine idxI (i) (by omega) (by omega) ?_
    refine rdI (by omega) ?_
    refine idxI (i) (by omega) (by omega) ?_
    refine wrI (by omega) ?_
    refine idxI (a + q) (by omega) (by omega) ?_
    refine wrI (by simp; omega) ?_
    refine num_eq (x := ((i + 1 : Nat) : Int)) (by rw [wrap64 (by omega) (by omega)]; omega) ?_
    exact ⟨(i + 1, swp d1 i (a + q), s2), ⟨by dsimp only; omega, by dsimp only; omega, permIn_trans _ _ _ _ _ hp (swp_permIn d1 a b i (a + q) (by omega) (by omega) (by omega) (by omega) (by omega))⟩, by dsimp only; omega, ⟨⟨rfl, rfl, rfl, rfl, rfl, rfl, trivial⟩, trivial, rfl, rfl⟩⟩
  · refine num_eq (x := ((a + o : Nat) : Int)) (by rw [wrap64 (by omega) (by omega)]; omega) ?_
    refine num_eq (x := ((a + o : Nat) : Int)) (by rw [wrap64 (by omega) (by omega)]; omega) ?_
    refine idxI (a + o) (by omega) (by omega) ?_
    refine rdI (by omega) ?_
    refine idxI (i) (by omega) (by omega) ?_
    refine rdI (by omega) ?_
    refine idxI (i) (by omega) (by omega) ?_
    refine wrI (by omega) ?_
    refine idxI (a + o) (by omega) (by omega) ?_
    refine wrI (by simp; omega) ?_
    refine num_eq (x := ((i + 1 : Nat) : Int)) (by rw [wrap64 (by omega) (by omega)]; omega) ?_
    exact ⟨(i + 1, swp d1 i (a + o), s2), ⟨by dsimp only; omega, by dsimp only; omega, permIn_trans _ _ _ _ _ hp (swp_permIn d1 a b i (a + o) (by omega) (by omega) (by omega) (by omega) (by omega))⟩, by dsimp only; omega, ⟨⟨rfl, rfl, rfl, rfl, rfl, rfl, trivial⟩, trivial, rfl, rfl⟩⟩
end
end Go.Vx

/- Contracts: the partitions. -/
namespace Go.Vx
open Go.Proofs Classical
open Go.Sort
section
variable {μ h0 : Mem} {r : Nat} {ty : TypeId} {rest : List Value} {d : Array Int}
theorem partitionEqual_spec {n a b pivot : Nat} {cap : Nat} (hd : d.size = n) (hap : a ≤ pivot) (hpb : pivot < b) (hb : b ≤ n) (hn : n ≤ 1000000000000) :
    SpecH Try.prog 92 [.slice (some ⟨r, 0, none⟩) n cap, .int .i64 a, .int .i64 b, .int .i64 pivot] μ (RowI h0 r ty rest d) fun v μ' h' => v = .int .i64 (partitionEqual ltInt d a b pivot).1 ∧ μ' = μ ∧ h' = RowI h0 r ty rest (partitionEqual ltInt d a b pivot).2 := by
  refine SpecH.mk [] Try.func92 (by kernel_rfl) ?_
  rw [partitionEqual]
  generalize hR : partEqLoop ltInt a (a + 1) (b - 1) (swp d a pivot) = R
  refine idxI (pivot) (by omega) (by omega) ?_
  refine rdI (by omega) ?_
  refine idxI (a) (by omega) (by omega) ?_
  refine rdI (by omega) ?_
  refine idxI (a) (by omega) (by omega) ?_
  refine wrI (by omega) ?_
  refine idxI (pivot) (by omega) (by omega) ?_
  refine wrI (by simp; omega) ?_
  refine num_eq (x := ((a + 1 : Nat) : Int)) (by rw [wrap64 (by omega) (by omega)]; omega) ?_
  refine num_eq (x := ((b - 1 : Nat) : Int)) (by rw [wrap64 (by omega) (by omega)]; omega) ?_
  refine loop_intro (fun p : Nat × Nat × Array Int => a < p.1 ∧ p.1 ≤ p.2.1 + 2 ∧ p.2.1 < b ∧ p.2.2.size = n ∧ partEqLoop ltInt a p.1 p.2.1 p.2.2 = R)
    (fun (i, j, d) => ⟨[(0, .val (.slice (some ⟨r, 0, none⟩) n cap)), (1, .val (.int .i64 a)), (9, .val (.int .i64 i)), (10, .val (.int .i64 j))], [], 0, μ, RowI h0 r ty rest d⟩) (fun p => p.2.1 + 1 - p.1)
    (a + 1, b - 1, swp d a pivot) ⟨by dsimp only; omega, by dsimp only; omega, by dsimp only; omega, by dsimp only; rw [Go.Sort.swp_size]; exact hd, hR⟩ (fun (_, _, _) => ⟨rfl, rfl⟩) ⟨⟨rfl, rfl, rfl, rfl, trivial⟩, trivial, rfl, rfl⟩ ?_
  clear hR
  rintro ⟨i, j, d1⟩ ⟨hai, hij0, hjb, hs, hR⟩
  dsimp only at hai hij0 hjb hs hR
  rw [partEqLoop_eq] at hR
  generalize hU : scanUp (fun x => !ltInt d1[a]! x) d1 j i = U at *
  refine loop_intro (fun i' : Nat => i ≤ i' ∧ i' ≤ j + 2 ∧ scanUp (fun x => !ltInt d1[a]! x) d1 j i' = U) (fun i' => ⟨[(0, .val (.slice (some ⟨r, 0, none⟩) n cap)), (1, .val (.int .i64 a)), (9, .val (.int .i64 i')), (10, .val (.int .i64 j))], [], 0, μ, RowI h0 r ty rest d1⟩) (fun i' => j + 1 - i')
    i ⟨by omega, by omega, hU⟩ (fun _ => ⟨rfl, rfl⟩) ⟨⟨rfl, rfl, rfl, rfl, trivial⟩, trivial, rfl, rfl⟩ ?_
  clear hU
  rintro i' ⟨h1, h2, hU⟩
  rw [scanUp] at hU
  refine ifd (fun hij => ?_) (fun hij => ?_)
  refine idxI (a) (by omega) (by omega) ?_
  refine rdI (by omega) ?_
  refine idxI (i') (by omega) (by omega) ?_
  refine rdI (by omega) ?_
  refine call_gives (Less_spec _ _) ?_
  refine if_intro (fun hl => ?_) (fun hl => ?_)
  · rw [if_pos (by simp only [Bool.and_eq_true, decide_eq_true_eq]; exact ⟨by omega, hl⟩)] at hU
    refine num_eq (x := ((i' + 1 : Nat) : Int)) (by rw [wrap64 (by omega) (by omega)]; omega) ?_
    exact ⟨i' + 1, ⟨by omega, by omega, hU⟩, by omega, ⟨⟨rfl, rfl, rfl, rfl, trivial⟩, trivial, rfl, rfl⟩⟩
  rw [if_neg (by simp only [Bool.and_eq_true, hl]; simp)] at hU
  rotate_left
  rw [if_neg (by simp; omega)] at hU
  obtain rfl := hU
  rotate_left
  obtain rfl := hU
  rotate_left
  all_goals
    generalize hV : scanDown (fun x => ltInt d1[a]! x) d1 i' j = V at *
    refine loop_intro (fun j' : Nat => j' ≤ j ∧ 0 ≤ j' ∧ scanDown (fun x => ltInt d1[a]! x) d1 i' j' = V) (fun j' => ⟨[(0, .val (.slice (some ⟨r, 0, none⟩) n cap)), (1, .val (.int .i64 a)), (9, .val (.int .i64 i')), (10, .val (.int .i64 j'))], [], 0, μ, RowI h0 r ty rest d1⟩) (fun j' => j')
      j ⟨by omega, by omega, hV⟩ (fun _ => ⟨rfl, rfl⟩) ⟨⟨rfl, rfl, rfl, rfl, trivial⟩, trivial, rfl, rfl⟩ ?_
    clear hV
    rintro j' ⟨g1, g2, hV⟩
    refine ifd (fun hij2 => ?_) (fun hij2 => ?_)
    obtain ⟨k, rfl⟩ : ∃ k, j' = k + 1 := ⟨j' - 1, by omega⟩
    rw [scanDown] at hV
    refine idxI (a) (by omega) (by omega) ?_
    refine rdI (by omega) ?_
    refine idxI (k + 1) (by omega) (by omega) ?_
    refine rdI (by omega) ?_
    refine call_gives (Less_spec _ _) ?_
    refine if_intro (fun hl => ?_) (fun hl => ?_)
    · rw [if_pos (by simp only [Bool.and_eq_true, decide_eq_true_eq]; exact ⟨by omega, hl⟩)] at hV
      refine num_eq (x := ((k : Nat) : Int)) (by rw [wrap64 (by omega) (by omega)]; omega) ?_
      exact ⟨k, ⟨by omega, by omega, hV⟩, by omega, ⟨⟨rfl, rfl, rfl, rfl, trivial⟩, trivial, rfl, rfl⟩⟩
    rw [if_neg (by simp only [Bool.and_eq_true, hl]; simp)] at hV
    obtain rfl := hV
    generalize k + 1 = j' at *
    rotate_left
    replace hV : j' = V := by
      cases j' with
      | zero => exact hV
      | succ k => rwa [scanDown, if_neg (by simp; omega)] at hV
    obtain rfl := hV
    rotate_left
  all_goals
    refine ifd (fun hgt => ?_) (fun hgt => ?_)
    · rw [if_pos (by omega)] at hR
      subst hR
      exact ret_plain ⟨rfl, rfl, rfl⟩
    · rw [if_neg (by omega)] at hR
      refine idxI (j') (by omega) (by omega) ?_
      refine rdI (by omega) ?_
      refine idxI (i') (by omega) (by omega) ?_
      refine rdI (by omega) ?_
      refine idxI (i') (by omega) (by omega) ?_
      refine wrI (by omega) ?_
      refine idxI (j') (by omega) (by omega) ?_
      refine wrI (by simp; omega) ?_
      refine num_eq (x := ((i' + 1 : Nat) : Int)) (by rw [wrap64 (by omega) (by omega)]; omega) ?_
      refine num_eq (x := ((j' - 1 : Nat) : Int)) (by rw [wrap64 (by omega) (by omega)]; omega) ?_
      exact ⟨(i' + 1, j' - 1, swp d1 i' j'), ⟨by dsimp only; omega, by dsimp only; omega, by dsimp only; omega, by dsimp only; rw [Go.Sort.swp_size]; exact hs, hR⟩, by dsimp only; omega, ⟨⟨rfl, rfl, rfl, rfl, trivial⟩, trivial, rfl, rfl⟩⟩
set_option maxHeartbeats 4000000 in
theorem partition_spec {n a b pivot : Nat} {cap : Nat} (hd : d.size = n) (hap : a ≤ pivot) (hpb : pivot < b) (hb : b ≤ n) (hn : n ≤ 1000000000000) :
    SpecH Try.prog 93 [.slice (some ⟨r, 0, none⟩) n cap, .int .i64 a, .int .i64 b, .int .i64 pivot] μ (RowI h0 r ty rest d) fun v μ' h' => (∃ ap, v = .tuple #[.int .i64 (partition ltInt d a b pivot).1, .bool ap]) ∧ μ' = μ ∧ h' = RowI h0 r ty rest (partition ltInt d a b pivot).2.2 := by
  refine SpecH.mk [] Try.func93 (by kernel_rfl) ?_
  rw [partition_fst, partition_arr]
  have hsz : ∀ m i j (d : Array Int), j + 1 - i ≤ m → (partLoop ltInt a i j d).2.size = d.size := fun m => by
    induction m with
    | zero =>
      intro i j d h
      rw [partLoop_eq]
      have h1 := scanUp_ge (fun x => ltInt x d[a]!) d j i
      have h2 := scanDown_le (fun x => !ltInt x d[a]!) d (scanUp (fun x => ltInt x d[a]!) d j i) j
      rw [if_pos (by omega)]
    | succ m ih =>
      intro i j d h
      rw [partLoop_eq]
      split
      · rfl
      · rename_i hg
        have := partLoop_guard ltInt a i j d hg
        rw [ih _ _ _ (by omega), Go.Sort.swp_size]
  have hRs := hsz _ (a + 1) (b - 1) (swp d a pivot) (Nat.le_refl _)
  rw [Go.Sort.swp_size] at hRs
  generalize hR : partLoop ltInt a (a + 1) (b - 1) (swp d a pivot) = R at *
  refine idxI (pivot) (by omega) (by omega) ?_
  refine rdI (by omega) ?_
  refine idxI (a) (by omega) (by omega) ?_
  refine rdI (by omega) ?_
  refine idxI (a) (by omega) (by omega) ?_
  refine wrI (by omega) ?_
  refine idxI (pivot) (by omega) (by omega) ?_
  refine wrI (by simp; omega) ?_
  refine num_eq (x := ((a + 1 : Nat) : Int)) (by rw [wrap64 (by omega) (by omega)]; omega) ?_
  refine num_eq (x := ((b - 1 : Nat) : Int)) (by rw [wrap64 (by omega) (by omega)]; omega) ?_
  have hs : (swp d a pivot).size = n := by rw [Go.Sort.swp_size]; exact hd
  have hsw : swp d a pivot = (d.setIfInBounds a d[pivot]!).setIfInBounds pivot d[a]! := rfl
  rw [hsw] at hR hs
  generalize (d.setIfInBounds a d[pivot]!).setIfInBounds pivot d[a]! = d1 at *
  clear hsw hsz
  obtain ⟨i, hi⟩ : ∃ i, i = a + 1 := ⟨_, rfl⟩
  obtain ⟨j, hj⟩ : ∃ j, j = b - 1 := ⟨_, rfl⟩
  have hai : a < i := by omega
  have hij0 : i ≤ j + 2 := by omega
  have hjb : j < b := by omega
  rw [← hi, ← hj] at hR ⊢
  clear hi hj
  rw [partLoop_eq] at hR
  generalize hU : scanUp (fun x => ltInt x d1[a]!) d1 j i = U at *
  refine loop_intro (fun i' : Nat => i ≤ i' ∧ i' ≤ j + 2 ∧ scanUp (fun x => ltInt x d1[a]!) d1 j i' = U) (fun i' => ⟨[(0, .val (.slice (some ⟨r, 0, none⟩) n cap)), (1, .val (.int .i64 a)), (10, .val (.int .i64 i')), (11, .val (.int .i64 j))], [], 0, μ, RowI h0 r ty rest d1⟩) (fun i' => j + 1 - i')
    i ⟨by omega, by omega, hU⟩ (fun _ => ⟨rfl, rfl⟩) ⟨⟨rfl, rfl, rfl, rfl, trivial⟩, trivial, rfl, rfl⟩ ?_
  clear hU
  rintro i' ⟨h1, h2, hU⟩
  rw [scanUp] at hU
  refine ifd (fun hij => ?_) (fun hij => ?_)
  refine idxI (i') (by omega) (by omega) ?_
  refine rdI (by omega) ?_
  refine idxI (a) (by omega) (by omega) ?_
  refine rdI (by omega) ?_
  refine call_gives (Less_spec _ _) ?_
  refine if_intro (fun hl => ?_) (fun hl => ?_)
  · rw [if_pos (by simp only [Bool.and_eq_true, decide_eq_true_eq]; exact ⟨by omega, hl⟩)] at hU
    refine num_eq (x := ((i' + 1 : Nat) : Int)) (by rw [wrap64 (by omega) (by omega)]; omega) ?_
    exact ⟨i' + 1, ⟨by omega, by omega, hU⟩, by omega, ⟨⟨rfl, rfl, rfl, rfl, trivial⟩, trivial, rfl, rfl⟩⟩
  rw [if_neg (by simp only [Bool.and_eq_true, hl]; simp)] at hU
  rotate_left
  rw [if_neg (by simp; omega)] at hU
  obtain rfl := hU
  rotate_left
  obtain rfl := hU
  rotate_left
  all_goals
    generalize hV : scanDown (fun x => !ltInt x d1[a]!) d1 i' j = V at *
    refine loop_intro (fun j' : Nat => j' ≤ j ∧ 0 ≤ j' ∧ scanDown (fun x => !ltInt x d1[a]!) d1 i' j' = V) (fun j' => ⟨[(0, .val (.slice (some ⟨r, 0, none⟩) n cap)), (1, .val (.int .i64 a)), (10, .val (.int .i64 i')), (11, .val (.int .i64 j'))], [], 0, μ, RowI h0 r ty rest d1⟩) (fun j' => j')
      j ⟨by omega, by omega, hV⟩ (fun _ => ⟨rfl, rfl⟩) ⟨⟨rfl, rfl, rfl, rfl, trivial⟩, trivial, rfl, rfl⟩ ?_
    clear hV
    rintro j' ⟨g1, g2, hV⟩
    refine ifd (fun hij2 => ?_) (fun hij2 => ?_)
    obtain ⟨k, rfl⟩ : ∃ k, j' = k + 1 := ⟨j' - 1, by omega⟩
    rw [scanDown] at hV
    refine idxI (k + 1) (by omega) (by omega) ?_
    refine rdI (by omega) ?_
    refine idxI (a) (by omega) (by omega) ?_
    refine rdI (by omega) ?_
    refine call_gives (Less_spec _ _) ?_
    refine if_intro (fun hl => ?_) (fun hl => ?_)
    · rw [if_pos (by simp only [Bool.and_eq_true, decide_eq_true_eq]; exact ⟨by omega, hl⟩)] at hV
      refine num_eq (x := ((k : Nat) : Int)) (by rw [wrap64 (by omega) (by omega)]; omega) ?_
      exact ⟨k, ⟨by omega, by omega, hV⟩, by omega, ⟨⟨rfl, rfl, rfl, rfl, trivial⟩, trivial, rfl, rfl⟩⟩
    rw [if_neg (by simp only [Bool.and_eq_true, hl]; simp)] at hV
    obtain rfl := hV
    generalize k + 1 = j' at *
    rotate_left
    replace hV : j' = V := by
      cases j' with
      | zero => exact hV
      | succ k => rwa [scanDown, if_neg (by simp; omega)] at hV
    obtain rfl := hV
    rotate_left
  all_goals
    refine ifd (fun hgt => ?_) (fun hgt => ?_)
    · rw [if_pos (by omega)] at hR
      subst hR
      refine idxI (a) (by omega) (by omega) ?_
      refine rdI (by omega) ?_
      refine idxI (j') (by omega) (by omega) ?_
      refine rdI (by omega) ?_
      refine idxI (j') (by omega) (by omega) ?_
      refine wrI (by omega) ?_
      refine idxI (a) (by omega) (by omega) ?_
      refine wrI (by simp; omega) ?_
      exact ret_plain ⟨⟨_, rfl⟩, rfl, rfl⟩
    · rw [if_neg (by omega)] at hR
      refine idxI (j') (by omega) (by omega) ?_
      refine rdI (by omega) ?_
      refine idxI (i') (by omega) (by omega) ?_
      refine rdI (by omega) ?_
      refine idxI (i') (by omega) (by omega) ?_
      refine wrI (by omega) ?_
      refine idxI (j') (by omega) (by omega) ?_
      refine wrI (by simp; omega) ?_
      refine num_eq (x := ((i' + 1 : Nat) : Int)) (by rw [wrap64 (by omega) (by omega)]; omega) ?_
      refine num_eq (x := ((j' - 1 : Nat) : Int)) (by rw [wrap64 (by omega) (by omega)]; omega) ?_
      refine loop_intro (fun p : Nat × Nat × Array Int => a < p.1 ∧ p.1 ≤ p.2.1 + 2 ∧ p.2.1 < b ∧ p.2.2.size = n ∧ partLoop ltInt a p.1 p.2.1 p.2.2 = R)
        (fun (i, j, d) => ⟨[(0, .val (.slice (some ⟨r, 0, none⟩) n cap)), (1, .val (.int .i64 a)), (10, .val (.int .i64 i)), (11, .val (.int .i64 j))], [], 0, μ, RowI h0 r ty rest d⟩) (fun p => p.2.1 + 1 - p.1)
        (i' + 1, j' - 1, swp d1 i' j') ⟨by dsimp only; omega, by dsimp only; omega, by dsimp only; omega, by dsimp only; rw [Go.Sort.swp_size]; exact hs, hR⟩ (fun (_, _, _) => ⟨rfl, rfl⟩) ⟨⟨rfl, rfl, rfl, rfl, trivial⟩, trivial, rfl, rfl⟩ ?_
      clear hR hgt hs hai hij0 hjb h1 h2 g1 g2
      rintro ⟨i, j, d1⟩ ⟨hai, hij0, hjb, hs, hR⟩
      dsimp only at hai hij0 hjb hs hR
      rw [partLoop_eq] at hR
      generalize hU : scanUp (fun x => ltInt x d1[a]!) d1 j i = U at *
      refine loop_intro (fun i' : Nat => i ≤ i' ∧ i' ≤ j + 2 ∧ scanUp (fun x => ltInt x d1[a]!) d1 j i' = U) (fun i' => ⟨[(0, .val (.slice (some ⟨r, 0, none⟩) n cap)), (1, .val (.int .i64 a)), (10, .val (.int .i64 i')), (11, .val (.int .i64 j))], [], 0, μ, RowI h0 r ty rest d1⟩) (fun i' => j + 1 - i')
        i ⟨by omega, by omega, hU⟩ (fun _ => ⟨rfl, rfl⟩) ⟨⟨rfl, rfl, rfl, rfl, trivial⟩, trivial, rfl, rfl⟩ ?_
      clear hU
      rintro i' ⟨h1, h2, hU⟩
      rw [scanUp] at hU
      refine ifd (fun hij => ?_) (fun hij => ?_)
      refine idxI (i') (by omega) (by omega) ?_
      refine rdI (by omega) ?_
      refine idxI (a) (by omega) (by omega) ?_
      refine rdI (by omega) ?_
      refine call_gives (Less_spec _ _) ?_
      refine if_intro (fun hl => ?_) (fun hl => ?_)
      · rw [if_pos (by simp only [Bool.and_eq_true, decide_eq_true_eq]; exact ⟨by omega, hl⟩)] at hU
        refine num_eq (x := ((i' + 1 : Nat) : Int)) (by rw [wrap64 (by omega) (by omega)]; omega) ?_
        exact ⟨i' + 1, ⟨by omega, by omega, hU⟩, by omega, ⟨⟨rfl, rfl, rfl, rfl, trivial⟩, trivial, rfl, rfl⟩⟩
      rw [if_neg (by simp only [Bool.and_eq_true, hl]; simp)] at hU
      rotate_left
      rw [if_neg (by simp; omega)] at hU
      obtain rfl := hU
      rotate_left
      obtain rfl := hU
      rotate_left
      all_goals
        generalize hV : scanDown (fun x => !ltInt x d1[a]!) d1 i' j = V at *
        refine loop_intro (fun j' : Nat => j' ≤ j ∧ 0 ≤ j' ∧ scanDown (fun x => !ltInt x d1[a]!) d1 i' j' = V) (fun j' => ⟨[(0, .val (.slice (some ⟨r, 0, none⟩) n cap)), (1, .val (.int .i64 a)), (10, .val (.int .i64 i')), (11, .val (.int .i64 j'))], [], 0, μ, RowI h0 r ty rest d1⟩) (fun j' => j')
          j ⟨by omega, by omega, hV⟩ (fun _ => ⟨rfl, rfl⟩) ⟨⟨rfl, rfl, rfl, rfl, trivial⟩, trivial, rfl, rfl⟩ ?_
        clear hV
        rintro j' ⟨g1, g2, hV⟩
        refine ifd (fun hij2 => ?_) (fun hij2 => ?_)
        obtain ⟨k, rfl⟩ : ∃ k, j' = k + 1 := ⟨j' - 1, by omega⟩
        rw [scanDown] at hV
        refine idxI (k + 1) (by omega) (by omega) ?_
        refine rdI (by omega) ?_
        refine idxI (a) (by omega) (by omega) ?_
        refine rdI (by omega) ?_
        refine call_gives (Less_spec _ _) ?_
        refine if_intro (fun hl => ?_) (fun hl => ?_)
        · rw [if_pos (by simp only [Bool.and_eq_true, decide_eq_true_eq]; exact ⟨by omega, hl⟩)] at hV
          refine num_eq (x := ((k : Nat) : Int)) (by rw [wrap64 (by omega) (by omega)]; omega) ?_
          exact ⟨k, ⟨by omega, by omega, hV⟩, by omega, ⟨⟨rfl, rfl, rfl, rfl, trivial⟩, trivial, rfl, rfl⟩⟩
        rw [if_neg (by simp only [Bool.and_eq_true, hl]; simp)] at hV
        obtain rfl := hV
        generalize k + 1 = j' at *
        rotate_left
        replace hV : j' = V := by
          cases j' with
          | zero => exact hV
          | succ k => rwa [scanDown, if_neg (by simp; omega)] at hV
        obtain rfl := hV
        rotate_left
      all_goals
        refine ifd (fun hgt => ?_) (fun hgt => ?_)
        · rw [if_pos (by omega)] at hR
          subst hR
          refine idxI (a) (by omega) (by omega) ?_
          refine rdI (by omega) ?_
          refine idxI (j') (by omega) (by omega) ?_
          refine rdI (by omega) ?_
          refine idxI (j') (by omega) (by omega) ?_
          refine wrI (by omega) ?_
          refine idxI (a) (by omega) (by omega) ?_
          refine wrI (by simp; omega) ?_
          exact ret_plain ⟨⟨_, rfl⟩, rfl, rfl⟩
        · rw [if_neg (by omega)] at hR
          refine idxI (j') (by omega) (by omega) ?_
          refine rdI (by omega) ?_
          refine idxI (i') (by omega) (by omega) ?_
          refine rdI (by omega) ?_
          refine idxI (i') (by omega) (by omega) ?_
          refine wrI (by omega) ?_
          refine idxI (j') (by omega) (by omega) ?_
          refine wrI (by simp; omega) ?_
          refine num_eq (x := ((i' + 1 : Nat) : Int)) (by rw [wrap64 (by omega) (by omega)]; omega) ?_
          refine num_eq (x := ((j' - 1 : Nat) : Int)) (by rw [wrap64 (by omega) (by omega)]; omega) ?_
          exact ⟨(i' + 1, j' - 1, swp d1 i' j'), ⟨by dsimp only; omega, by dsimp only; omega, by dsimp only; omega, by dsimp only; rw [Go.Sort.swp_size]; exact hs, hR⟩, by dsimp only; omega, ⟨⟨rfl, rfl, rfl, rfl, trivial⟩, trivial, rfl, rfl⟩⟩
end
end Go.Vx

/- Contracts: a few steps of insertion. -/
namespace Go.Vx
open Go.Proofs Classical
open Go.Sort
section
variable {μ h0 : Mem} {r : Nat} {ty : TypeId} {rest : List Value} {d : Array Int}
set_option maxHeartbeats 8000000 in
theorem partialInsertionSort_spec {n a b : Nat} {cap : Nat} (hd : d.size = n) (ha : a < b) (hb : b ≤ n) (hn : n ≤ 1000000000000) :
    SpecH Try.prog 90 [.slice (some ⟨r, 0, none⟩) n cap, .int .i64 a, .int .i64 b] μ (RowI h0 r ty rest d) fun v μ' h' => v = .bool (partialInsertionSort ltInt d a b).2 ∧ μ' = μ ∧ h' = RowI h0 r ty rest (partialInsertionSort ltInt d a b).1 := by
  refine SpecH.mk [] Try.func90 (by kernel_rfl) ?_
  rw [partialInsertionSort]
  generalize hR : partialIns ltInt a b 5 (a + 1) d = R
  refine num_eq (x := ((a + 1 : Nat) : Int)) (by rw [wrap64 (by omega) (by omega)]; omega) ?_
  refine loop_intro (fun p : Nat × Nat × Array Int => p.1 ≤ 5 ∧ a < p.2.1 ∧ p.2.1 ≤ b ∧ p.2.2.size = n ∧ partialIns ltInt a b p.1 p.2.1 p.2.2 = R)
    (fun (t, i, d) => ⟨[(0, .val (.slice (some ⟨r, 0, none⟩) n cap)), (1, .val (.int .i64 a)), (2, .val (.int .i64 b)), (7, .val (.int .i64 i)), (8, .val (.int .i64 (5 - (t : Int))))], [], 0, μ, RowI h0 r ty rest d⟩) (fun p => p.1)
    (5, a + 1, d) ⟨by dsimp only; omega, by dsimp only; omega, by dsimp only; omega, hd, hR⟩ (fun (_, _, _) => ⟨rfl, rfl⟩) ⟨⟨rfl, rfl, rfl, rfl, rfl, trivial⟩, trivial, rfl, rfl⟩ ?_
  clear hR
  rintro ⟨t, i, d1⟩ ⟨ht, hai, hib, hs, hR⟩
  dsimp only at ht hai hib hs hR
  refine ifd (fun h5 => ?_) (fun h5 => ?_)
  rotate_left
  · obtain rfl : t = 0 := by omega
    rw [partialIns] at hR
    subst hR
    exact ret_plain ⟨rfl, rfl, rfl⟩
  obtain ⟨t, rfl⟩ : ∃ k, t = k + 1 := ⟨t - 1, by omega⟩
  rw [partialIns_succ] at hR
  generalize hS : scanSorted ltInt d1 b i = S at *
  refine loop_intro (fun i' : Nat => i ≤ i' ∧ i' ≤ b ∧ scanSorted ltInt d1 b i' = S) (fun i' => ⟨[(0, .val (.slice (some ⟨r, 0, none⟩) n cap)), (1, .val (.int .i64 a)), (2, .val (.int .i64 b)), (7, .val (.int .i64 i')), (8, .val (.int .i64 (5 - ((t + 1 : Nat) : Int))))], [], 0, μ, RowI h0 r ty rest d1⟩) (fun i' => b - i')
    i ⟨by omega, by omega, hS⟩ (fun _ => ⟨rfl, rfl⟩) ⟨⟨rfl, rfl, rfl, rfl, rfl, trivial⟩, trivial, rfl, rfl⟩ ?_
  clear hS
  rintro i' ⟨h1, h2, hS⟩
  rw [scanSorted] at hS
  refine ifd (fun hlt => ?_) (fun hlt => ?_)
  rotate_left
  · rw [if_neg (by simp; omega)] at hS
    obtain rfl := hS
    rw [if_pos (by omega)] at hR
    subst hR
    refine ifd (fun _ => ?_) (fun h => absurd (by omega) h)
    exact ret_plain ⟨rfl, rfl, rfl⟩
  refine idxI (i') (by omega) (by omega) ?_
  refine rdI (by omega) ?_
  refine num_eq (x := ((i' - 1 : Nat) : Int)) (by rw [wrap64 (by omega) (by omega)]; omega) ?_
  refine idxI (i' - 1) (by omega) (by omega) ?_
  refine rdI (by omega) ?_
  refine call_gives (Less_spec _ _) ?_
  refine if_intro (fun hl => ?_) (fun hl => ?_)
  · rw [if_pos (by simp only [Bool.and_eq_true, decide_eq_true_eq]; exact ⟨by omega, hl⟩)] at hS
    refine num_eq (x := ((i' + 1 : Nat) : Int)) (by rw [wrap64 (by omega) (by omega)]; omega) ?_
    exact ⟨i' + 1, ⟨by omega, by omega, hS⟩, by omega, ⟨⟨rfl, rfl, rfl, rfl, rfl, trivial⟩, trivial, rfl, rfl⟩⟩
  rw [if_neg (by simp only [Bool.and_eq_true, hl]; simp)] at hS
  obtain rfl := hS
  refine ifd (fun h => absurd h (by omega)) (fun _ => ?_)
  rw [if_neg (by omega)] at hR
  refine num_eq (x := ((b - a : Nat) : Int)) (by rw [wrap64 (by omega) (by omega)]; omega) ?_
  refine ifd (fun h50 => ?_) (fun h50 => ?_)
  · rw [if_pos (by omega)] at hR
    subst hR
    exact ret_plain ⟨rfl, rfl, rfl⟩
  rw [if_neg (by omega)] at hR
  refine num_eq (x := ((i' - 1 : Nat) : Int)) (by rw [wrap64 (by omega) (by omega)]; omega) ?_
  refine num_eq (x := ((i' - 1 : Nat) : Int)) (by rw [wrap64 (by omega) (by omega)]; omega) ?_
  refine idxI (i' - 1) (by omega) (by omega) ?_
  refine rdI (by omega) ?_
  refine idxI (i') (by omega) (by omega) ?_
  refine rdI (by omega) ?_
  refine idxI (i') (by omega) (by omega) ?_
  refine wrI (by omega) ?_
  refine idxI (i' - 1) (by omega) (by omega) ?_
  refine wrI (by simp; omega) ?_
  have hsw : swp d1 i' (i' - 1) = (d1.setIfInBounds i' d1[i' - 1]!).setIfInBounds (i' - 1) d1[i']! := rfl
  have hs2 : (swp d1 i' (i' - 1)).size = n := by rw [Go.Sort.swp_size]; exact hs
  rw [hsw] at hR hs2
  generalize (d1.setIfInBounds i' d1[i' - 1]!).setIfInBounds (i' - 1) d1[i']! = d2 at *
  clear hsw
  refine num_eq (x := ((i' - a : Nat) : Int)) (by rw [wrap64 (by omega) (by omega)]; omega) ?_
  unfold fixDown at hR
  refine ifd (fun hd2 => ?_) (fun hd2 => ?_)
  · rw [if_pos (by omega)] at hR
    refine num_eq (x := ((i' - 1 : Nat) : Int)) (by rw [wrap64 (by omega) (by omega)]; omega) ?_
    generalize hD : shiftDown ltInt (i' - 1) d2 = D2 at *
    refine loop_intro (fun p : Nat × Array Int => p.1 ≤ i' - 1 ∧ p.2.size = n ∧ shiftDown ltInt p.1 p.2 = D2) (fun (j, d) => ⟨[(0, .val (.slice (some ⟨r, 0, none⟩) n cap)), (1, .val (.int .i64 a)), (2, .val (.int .i64 b)), (7, .val (.int .i64 i')), (8, .val (.int .i64 (5 - ((t + 1 : Nat) : Int)))), (9, .val (.int .i64 j))], [], 0, μ, RowI h0 r ty rest d⟩) (fun p => p.1)
      (i' - 1, d2) ⟨by dsimp only; omega, hs2, hD⟩ (fun (_, _) => ⟨rfl, rfl⟩) ⟨⟨rfl, rfl, rfl, rfl, rfl, rfl, trivial⟩, trivial, rfl, rfl⟩ ?_
    clear hD
    rintro ⟨j, d3⟩ ⟨hj, hs3, hD⟩
    dsimp only at hj hs3 hD
    refine ifd (fun hj1 => ?_) (fun hj1 => ?_)
    · obtain ⟨k, rfl⟩ : ∃ k, j = k + 1 := ⟨j - 1, by omega⟩
      rw [shiftDown] at hD
      refine idxI (k + 1) (by omega) (by omega) ?_
      refine rdI (by omega) ?_
      refine num_eq (x := ((k : Nat) : Int)) (by rw [wrap64 (by omega) (by omega)]; omega) ?_
      refine idxI (k) (by omega) (by omega) ?_
      refine rdI (by omega) ?_
      refine call_gives (Less_spec _ _) ?_
      refine if_intro (fun hl2 => ?_) (fun hl2 => ?_)
      · rw [if_pos hl2] at hD
        obtain rfl := hD
        refine num_eq (x := ((b - i' : Nat) : Int)) (by rw [wrap64 (by omega) (by omega)]; omega) ?_
        unfold fixUp at hR
        refine ifd (fun hu2 => ?_) (fun hu2 => ?_)
        · rw [if_pos (by omega)] at hR
          refine num_eq (x := ((i' + 1 : Nat) : Int)) (by rw [wrap64 (by omega) (by omega)]; omega) ?_
          generalize hE : shiftUp ltInt b (i' + 1) d3 = D4 at *
          refine loop_intro (fun p : Nat × Array Int => i' + 1 ≤ p.1 ∧ p.1 ≤ b + 1 ∧ p.2.size = n ∧ shiftUp ltInt b p.1 p.2 = D4) (fun (j, d) => ⟨[(0, .val (.slice (some ⟨r, 0, none⟩) n cap)), (1, .val (.int .i64 a)), (2, .val (.int .i64 b)), (7, .val (.int .i64 i')), (8, .val (.int .i64 (5 - ((t + 1 : Nat) : Int)))), (10, .val (.int .i64 j))], [], 0, μ, RowI h0 r ty rest d⟩) (fun p => b - p.1)
            (i' + 1, d3) ⟨by dsimp only; omega, by dsimp only; omega, hs3, hE⟩ (fun (_, _) => ⟨rfl, rfl⟩) ⟨⟨rfl, rfl, rfl, rfl, rfl, rfl, trivial⟩, trivial, rfl, rfl⟩ ?_
          clear hE
          rintro ⟨j2, d5⟩ ⟨hj2, hjb2, hs5, hE⟩
          dsimp only at hj2 hjb2 hs5 hE
          rw [shiftUp] at hE
          refine ifd (fun hj1 => ?_) (fun hj1 => ?_)
          · rw [if_pos (by omega)] at hE
            refine idxI (j2) (by omega) (by omega) ?_
            refine rdI (by omega) ?_
            refine num_eq (x := ((j2 - 1 : Nat) : Int)) (by rw [wrap64 (by omega) (by omega)]; omega) ?_
            refine idxI (j2 - 1) (by omega) (by omega) ?_
            refine rdI (by omega) ?_
            refine call_gives (Less_spec _ _) ?_
            refine if_intro (fun hl3 => ?_) (fun hl3 => ?_)
            · rw [if_pos hl3] at hE
              obtain rfl := hE
              refine num_eq (x := 5 - (t : Int)) (by rw [wrap64 (by omega) (by omega)]; omega) ?_
              exact ⟨(t, i', d5), ⟨by dsimp only; omega, by dsimp only; omega, by dsimp only; omega, hs5, hR⟩, by dsimp only; omega, ⟨⟨rfl, rfl, rfl, rfl, rfl, trivial⟩, trivial, rfl, rfl⟩⟩
            · rw [if_neg (by simp only [hl3]; simp)] at hE
              refine num_eq (x := ((j2 - 1 : Nat) : Int)) (by rw [wrap64 (by omega) (by omega)]; omega) ?_
              refine num_eq (x := ((j2 - 1 : Nat) : Int)) (by rw [wrap64 (by omega) (by omega)]; omega) ?_
              refine idxI (j2 - 1) (by omega) (by omega) ?_
              refine rdI (by omega) ?_
              refine idxI (j2) (by omega) (by omega) ?_
              refine rdI (by omega) ?_
              refine idxI (j2) (by omega) (by omega) ?_
              refine wrI (by omega) ?_
              refine idxI (j2 - 1) (by omega) (by omega) ?_
              refine wrI (by simp; omega) ?_
              refine num_eq (x := ((j2 + 1 : Nat) : Int)) (by rw [wrap64 (by omega) (by omega)]; omega) ?_
              exact ⟨(j2 + 1, swp d5 j2 (j2 - 1)), ⟨by dsimp only; omega, by dsimp only; omega, by dsimp only; rw [Go.Sort.swp_size]; exact hs5, hE⟩, by dsimp only; omega, ⟨⟨rfl, rfl, rfl, rfl, rfl, rfl, trivial⟩, trivial, rfl, rfl⟩⟩
          · rw [if_neg (by omega)] at hE
            obtain rfl := hE
            refine num_eq (x := 5 - (t : Int)) (by rw [wrap64 (by omega) (by omega)]; omega) ?_
            exact ⟨(t, i', d5), ⟨by dsimp only; omega, by dsimp only; omega, by dsimp only; omega, hs5, hR⟩, by dsimp only; omega, ⟨⟨rfl, rfl, rfl, rfl, rfl, trivial⟩, trivial, rfl, rfl⟩⟩
        · rw [if_neg (by omega)] at hR
          refine num_eq (x := 5 - (t : Int)) (by rw [wrap64 (by omega) (by omega)]; omega) ?_
          exact ⟨(t, i', d3), ⟨by dsimp only; omega, by dsimp only; omega, by dsimp only; omega, hs3, hR⟩, by dsimp only; omega, ⟨⟨rfl, rfl, rfl, rfl, rfl, trivial⟩, trivial, rfl, rfl⟩⟩
      · rw [if_neg (by simp only [hl2]; simp)] at hD
        refine num_eq (x := ((k : Nat) : Int)) (by rw [wrap64 (by omega) (by omega)]; omega) ?_
        refine num_eq (x := ((k : Nat) : Int)) (by rw [wrap64 (by omega) (by omega)]; omega) ?_
        refine idxI (k) (by omega) (by omega) ?_
        refine rdI (by omega) ?_
        refine idxI (k + 1) (by omega) (by omega) ?_
        refine rdI (by omega) ?_
        refine idxI (k + 1) (by omega) (by omega) ?_
        refine wrI (by omega) ?_
        refine idxI (k) (by omega) (by omega) ?_
        refine wrI (by simp; omega) ?_
        refine num_eq (x := ((k : Nat) : Int)) (by rw [wrap64 (by omega) (by omega)]; omega) ?_
        exact ⟨(k, swp d3 (k + 1) k), ⟨by dsimp only; omega, by dsimp only; rw [Go.Sort.swp_size]; exact hs3, hD⟩, by dsimp only; omega, ⟨⟨rfl, rfl, rfl, rfl, rfl, rfl, trivial⟩, trivial, rfl, rfl⟩⟩
    · obtain rfl : j = 0 := by omega
      have hD : d3 = D2 := hD
      obtain rfl := hD
      refine num_eq (x := ((b - i' : Nat) : Int)) (by rw [wrap64 (by omega) (by omega)]; omega) ?_
      unfold fixUp at hR
      refine ifd (fun hu2 => ?_) (fun hu2 => ?_)
      · rw [if_pos (by omega)] at hR
        refine num_eq (x := ((i' + 1 : Nat) : Int)) (by rw [wrap64 (by omega) (by omega)]; omega) ?_
        generalize hE : shiftUp ltInt b (i' + 1) d3 = D4 at *
        refine loop_intro (fun p : Nat × Array Int => i' + 1 ≤ p.1 ∧ p.1 ≤ b + 1 ∧ p.2.size = n ∧ shiftUp ltInt b p.1 p.2 = D4) (fun (j, d) => ⟨[(0, .val (.slice (some ⟨r, 0, none⟩) n cap)), (1, .val (.int .i64 a)), (2, .val (.int .i64 b)), (7, .val (.int .i64 i')), (8, .val (.int .i64 (5 - ((t + 1 : Nat) : Int)))), (10, .val (.int .i64 j))], [], 0, μ, RowI h0 r ty rest d⟩) (fun p => b - p.1)
          (i' + 1, d3) ⟨by dsimp only; omega, by dsimp only; omega, hs3, hE⟩ (fun (_, _) => ⟨rfl, rfl⟩) ⟨⟨rfl, rfl, rfl, rfl, rfl, rfl, trivial⟩, trivial, rfl, rfl⟩ ?_
        clear hE
        rintro ⟨j2, d5⟩ ⟨hj2, hjb2, hs5, hE⟩
        dsimp only at hj2 hjb2 hs5 hE
        rw [shiftUp] at hE
        refine ifd (fun hj1 => ?_) (fun hj1 => ?_)
        · rw [if_pos (by omega)] at hE
          refine idxI (j2) (by omega) (by omega) ?_
          refine rdI (by omega) ?_
          refine num_eq (x := ((j2 - 1 : Nat) : Int)) (by rw [wrap64 (by omega) (by omega)]; omega) ?_
          refine idxI (j2 - 1) (by omega) (by omega) ?_
          refine rdI (by omega) ?_
          refine call_gives (Less_spec _ _) ?_
          refine if_intro (fun hl3 => ?_) (fun hl3 => ?_)
          · rw [if_pos hl3] at hE
            obtain rfl := hE
            refine num_eq (x := 5 - (t : Int)) (by rw [wrap64 (by omega) (by omega)]; omega) ?_
            exact ⟨(t, i', d5), ⟨by dsimp only; omega, by dsimp only; omega, by dsimp only; omega, hs5, hR⟩, by dsimp only; omega, ⟨⟨rfl, rfl, rfl, rfl, rfl, trivial⟩, trivial, rfl, rfl⟩⟩
          · rw [if_neg (by simp only [hl3]; simp)] at hE
            refine num_eq (x := ((j2 - 1 : Nat) : Int)) (by rw [wrap64 (by omega) (by omega)]; omega) ?_
            refine num_eq (x := ((j2 - 1 : Nat) : Int)) (by rw [wrap64 (by omega) (by omega)]; omega) ?_
            refine idxI (j2 - 1) (by omega) (by omega) ?_
            refine rdI (by omega) ?_
            refine idxI (j2) (by omega) (by omega) ?_
            refine rdI (by omega) ?_
            refine idxI (j2) (by omega) (by omega) ?_
            refine wrI (by omega) ?_
            refine idxI (j2 - 1) (by omega) (by omega) ?_
            refine wrI (by simp; omega) ?_
            refine num_eq (x := ((j2 + 1 : Nat) : Int)) (by rw [wrap64 (by omega) (by omega)]; omega) ?_
            exact ⟨(j2 + 1, swp d5 j2 (j2 - 1)), ⟨by dsimp only; omega, by dsimp only; omega, by dsimp only; rw [Go.Sort.swp_size]; exact hs5, hE⟩, by dsimp only; omega, ⟨⟨rfl, rfl, rfl, rfl, rfl, rfl, trivial⟩, trivial, rfl, rfl⟩⟩
        · rw [if_neg (by omega)] at hE
          obtain rfl := hE
          refine num_eq (x := 5 - (t : Int)) (by rw [wrap64 (by omega) (by omega)]; omega) ?_
          exact ⟨(t, i', d5), ⟨by dsimp only; omega, by dsimp only; omega, by dsimp only; omega, hs5, hR⟩, by dsimp only; omega, ⟨⟨rfl, rfl, rfl, rfl, rfl, trivial⟩, trivial, rfl, rfl⟩⟩
      · rw [if_neg (by omega)] at hR
        refine num_eq (x := 5 - (t : Int)) (by rw [wrap64 (by omega) (by omega)]; omega) ?_
        exact ⟨(t, i', d3), ⟨by dsimp only; omega, by dsimp only; omega, by dsimp only; omega, hs3, hR⟩, by dsimp only; omega, ⟨⟨rfl, rfl, rfl, rfl, rfl, trivial⟩, trivial, rfl, rfl⟩⟩
  · rw [if_neg (by omega)] at hR
    refine num_eq (x := ((b - i' : Nat) : Int)) (by rw [wrap64 (by omega) (by omega)]; omega) ?_
    unfold fixUp at hR
    refine ifd (fun hu2 => ?_) (fun hu2 => ?_)
    · rw [if_pos (by omega)] at hR
      refine num_eq (x := ((i' + 1 : Nat) : Int)) (by rw [wrap64 (by omega) (by omega)]; omega) ?_
      generalize hE : shiftUp ltInt b (i' + 1) d2 = D4 at *
      refine loop_intro (fun p : Nat × Array Int => i' + 1 ≤ p.1 ∧ p.1 ≤ b + 1 ∧ p.2.size = n ∧ shiftUp ltInt b p.1 p.2 = D4) (fun (j, d) => ⟨[(0, .val (.slice (some ⟨r, 0, none⟩) n cap)), (1, .val (.int .i64 a)), (2, .val (.int .i64 b)), (7, .val (.int .i64 i')), (8, .val (.int .i64 (5 - ((t + 1 : Nat) : Int)))), (10, .val (.int .i64 j))], [], 0, μ, RowI h0 r ty rest d⟩) (fun p => b - p.1)
        (i' + 1, d2) ⟨by dsimp only; omega, by dsimp only; omega, hs2, hE⟩ (fun (_, _) => ⟨rfl, rfl⟩) ⟨⟨rfl, rfl, rfl, rfl, rfl, rfl, trivial⟩, trivial, rfl, rfl⟩ ?_
      clear hE
      rintro ⟨j2, d5⟩ ⟨hj2, hjb2, hs5, hE⟩
      dsimp only at hj2 hjb2 hs5 hE
      rw [shiftUp] at hE
      refine ifd (fun hj1 => ?_) (fun hj1 => ?_)
      · rw [if_pos (by omega)] at hE
        refine idxI (j2) (by omega) (by omega) ?_
        refine rdI (by omega) ?_
        refine num_eq (x := ((j2 - 1 : Nat) : Int)) (by rw [wrap64 (by omega) (by omega)]; omega) ?_
        refine idxI (j2 - 1) (by omega) (by omega) ?_
        refine rdI (by omega) ?_
        refine call_gives (Less_spec _ _) ?_
        refine if_intro (fun hl3 => ?_) (fun hl3 => ?_)
        · rw [if_pos hl3] at hE
          obtain rfl := hE
          refine num_eq (x := 5 - (t : Int)) (by rw [wrap64 (by omega) (by omega)]; omega) ?_
          exact ⟨(t, i', d5), ⟨by dsimp only; omega, by dsimp only; omega, by dsimp only; omega, hs5, hR⟩, by dsimp only; omega, ⟨⟨rfl, rfl, rfl, rfl, rfl, trivial⟩, trivial, rfl, rfl⟩⟩
        · rw [if_neg (by simp only [hl3]; simp)] at hE
          refine num_eq (x := ((j2 - 1 : Nat) : Int)) (by rw [wrap64 (by omega) (by omega)]; omega) ?_
          refine num_eq (x := ((j2 - 1 : Nat) : Int)) (by rw [wrap64 (by omega) (by omega)]; omega) ?_
          refine idxI (j2 - 1) (by omega) (by omega) ?_
          refine rdI (by omega) ?_
          refine idxI (j2) (by omega) (by omega) ?_
          refine rdI (by omega) ?_
          refine idxI (j2) (by omega) (by omega) ?_
          refine wrI (by omega) ?_
          refine idxI (j2 - 1) (by omega) (by omega) ?_
          refine wrI (by simp; omega) ?_
          refine num_eq (x := ((j2 + 1 : Nat) : Int)) (by rw [wrap64 (by omega) (by omega)]; omega) ?_
          exact ⟨(j2 + 1, swp d5 j2 (j2 - 1)), ⟨by dsimp only; omega, by dsimp only; omega, by dsimp only; rw [Go.Sort.swp_size]; exact hs5, hE⟩, by dsimp only; omega, ⟨⟨rfl, rfl, rfl, rfl, rfl, rfl, trivial⟩, trivial, rfl, rfl⟩⟩
      · rw [if_neg (by omega)] at hE
        obtain rfl := hE
        refine num_eq (x := 5 - (t : Int)) (by rw [wrap64 (by omega) (by omega)]; omega) ?_
        exact ⟨(t, i', d5), ⟨by dsimp only; omega, by dsimp only; omega, by dsimp only; omega, hs5, hR⟩, by dsimp only; omega, ⟨⟨rfl, rfl, rfl, rfl, rfl, trivial⟩, trivial, rfl, rfl⟩⟩
    · rw [if_neg (by omega)] at hR
      refine num_eq (x := 5 - (t : Int)) (by rw [wrap64 (by omega) (by omega)]; omega) ?_
      exact ⟨(t, i', d2), ⟨by dsimp only; omega, by dsimp only; omega, by dsimp only; omega, hs2, hR⟩, by dsimp only; omega, ⟨⟨rfl, rfl, rfl, rfl, rfl, trivial⟩, trivial, rfl, rfl⟩⟩
end
end Go.Vx

/- Contracts: rows of numbers sorted. -/
namespace Go.Vx
open Go.Proofs Classical
open Go.Sort
section
variable {h0 : Mem} {r : Nat} {ty : TypeId} {rest : List Value}
set_option maxHeartbeats 16000000 in
theorem pdqsort_spec {n cap : Nat} (hr : h0 r = none) (hn : n ≤ 1000000000000) : ∀ (m : Nat) (a b limit : Nat) (d : Array Int) (μ : Mem), b - a < m → a ≤ b → b ≤ n → d.size = n → limit ≤ 64 → Below ltInt a b d →
    SpecH Try.prog 83 [.slice (some ⟨r, 0, none⟩) n cap, .int .i64 a, .int .i64 b, .int .i64 limit] μ (RowI h0 r ty rest d) fun v μ' h' => v = .tuple #[] ∧ ∃ d', PermIn a b d d' ∧ SortedIn ltInt a b d' ∧ h' = RowI h0 r ty rest d' := by
  intro m
  induction m with
  | zero => intro a b limit d μ h; omega
  | succ m ih =>
  intro a0 b0 limit0 d0 μ hm hab0 hb0 hd0 hl0 hB0
  refine SpecH.mk [] Try.func83 (by kernel_rfl) ?_
  refine loop_intro (fun p : Nat × Nat × Nat × Bool × Bool × Array Int × Mem => p.1 ≤ p.2.1 ∧ p.2.1 ≤ n ∧ p.2.1 - p.1 ≤ b0 - a0 ∧ p.2.2.1 ≤ 64 ∧ p.2.2.2.2.2.1.size = n ∧ Below ltInt p.1 p.2.1 p.2.2.2.2.2.1 ∧ μ.Le p.2.2.2.2.2.2 ∧ ∀ R, PermIn p.1 p.2.1 p.2.2.2.2.2.1 R → SortedIn ltInt p.1 p.2.1 R → PermIn a0 b0 d0 R ∧ SortedIn ltInt a0 b0 R)
    (fun (a, b, limit, wb, wp, d, μ') => ⟨[(0, .val (.slice (some ⟨r, 0, none⟩) n cap)), (1, .val (.int .i64 a)), (2, .val (.int .i64 b)), (3, .val (.int .i64 limit)), (8, .val (.bool wb)), (9, .val (.bool wp))], [], 0, μ', RowI h0 r ty rest d⟩) (fun p => p.2.1 - p.1)
    (a0, b0, limit0, true, true, d0, μ) ⟨hab0, hb0, Nat.le_refl _, hl0, hd0, hB0, Mem.Le.refl _, fun R h1 h2 => ⟨h1, h2⟩⟩ (fun (_, _, _, _, _, _, _) => ⟨rfl, rfl⟩) ⟨⟨rfl, rfl, rfl, rfl, rfl, rfl, trivial⟩, trivial, rfl, rfl⟩ ?_
  rintro ⟨a, b, limit, wb, wp, d, μ1⟩ ⟨hab, hb, hlen, hlim, hs, hB, hle, hfin⟩
  dsimp only at hab hb hlen hlim hs hB hle hfin
  refine num_eq (x := ((b - a : Nat) : Int)) (by rw [wrap64 (by omega) (by omega)]; omega) ?_
  refine ifd (fun h12 => ?_) (fun h12 => ?_)
  · refine call_own (insertionSort_spec hs hab hb hn) fun v μ' h' hle' hap hR => ?_
    obtain ⟨rfl, e1, rfl⟩ := hR
    have q := insertionSort_holds (lt := ltInt) swo_ltInt d a b hab (by omega)
    exact ret_plain ⟨rfl, _, (hfin _ q.1 q.2).1, (hfin _ q.1 q.2).2, rfl⟩
  refine ifd (fun hl => ?_) (fun hl => ?_)
  · refine call_own (heapSort_spec hs (by omega) hb hn) fun v μ' h' hle' hap hR => ?_
    obtain ⟨rfl, e1, rfl⟩ := hR
    have q := heapSort_holds (lt := ltInt) swo_ltInt d a b hab (by omega)
    exact ret_plain ⟨rfl, _, (hfin _ q.1 q.2).1, (hfin _ q.1 q.2).2, rfl⟩
  cases wb with
  | false =>
    refine if_intro (fun _ => ?_) (fun h => nomatch h)
    refine call_own (breakPatterns_spec hr hs (by omega) hb hn) fun v μ2 h' hle' hap hR => ?_
    obtain ⟨rfl, d1, p1, rfl⟩ := hR
    replace hB := hB.perm (by omega) p1
    replace hfin := fun R h1 h2 => hfin R (permIn_trans _ _ _ _ _ p1 h1) h2
    have hs1 : d1.size = n := p1.1.trans hs
    replace hle := hle.trans hle'
    clear hs p1 hle'
    refine num_eq (x := ((limit - 1 : Nat) : Int)) (by rw [wrap64 (by omega) (by omega)]; omega) ?_
    refine call_own (choosePivot_spec hr hs1 (by omega) hb hn) fun v μ3 h' hle' hap hR => ?_
    obtain ⟨p, k, hp1, hp2, hk, rfl, rfl⟩ := hR
    replace hle := hle.trans hle'
    clear hle' hap
    refine ifd (fun hk2 => ?_) (fun hk2 => ?_)
    · refine call_own (reverseRange_spec hs1 (by omega) hab hb hn) fun v μ4 h' hle' hap hR => ?_
      obtain ⟨rfl, e1, rfl⟩ := hR
      obtain rfl := e1.symm
      clear hle' hap
      have p2 := reverseRange_holds d1 a b hab (by omega)
      generalize reverseRange d1 a b = d2 at *
      replace hB := hB.perm (by omega) p2
      replace hfin := fun R h1 h2 => hfin R (permIn_trans _ _ _ _ _ p2 h1) h2
      have hs2 : d2.size = n := p2.1.trans hs1
      clear p2
      refine num_eq (x := ((b - 1 : Nat) : Int)) (by rw [wrap64 (by omega) (by omega)]; omega) ?_
      refine num_eq (x := ((p - a : Nat) : Int)) (by rw [wrap64 (by omega) (by omega)]; omega) ?_
      refine num_eq (x := (((b - 1) - (p - a) : Nat) : Int)) (by rw [wrap64 (by omega) (by omega)]; omega) ?_
      refine if_intro (fun h => nomatch h) (fun _ => ?_)
      refine ifd (fun ha0 => ?_) (fun ha0 => ?_)
      · refine num_eq (x := ((a - 1 : Nat) : Int)) (by rw [wrap64 (by omega) (by omega)]; omega) ?_
        refine idxI (a - 1) (by omega) (by omega) ?_
        refine rdI (by omega) ?_
        refine idxI ((b - 1) - (p - a)) (by omega) (by omega) ?_
        refine rdI (by omega) ?_
        refine call_gives (Less_spec _ _) ?_
        refine if_intro (fun hnl => ?_) (fun hnl => ?_)
        · refine call_own (partitionEqual_spec (pivot := (b - 1) - (p - a)) hs2 (by omega) (by omega) hb hn) fun v μ6 h' hle' hap hR => ?_
          obtain ⟨rfl, e1, rfl⟩ := hR
          obtain rfl := e1.symm
          obtain ⟨mid, d4, hx⟩ : ∃ mid d4, partitionEqual ltInt d2 a b ((b - 1) - (p - a)) = (mid, d4) := ⟨_, _, rfl⟩
          rw [hx]
          have q := round_eq swo_ltInt (partitionEqual_holds ltInt) (by omega) (by omega) (by omega) (by omega) hB (by simpa using hnl) hx
          have qa := q.1
          exact ⟨(mid, b, limit - 1, false, wp, d4, _), ⟨q.2.1, hb, by dsimp only; omega, by dsimp only; omega, q.2.2.1.trans hs2, q.2.2.2.1, hle, fun R h1 h2 => hfin R (q.2.2.2.2 R h1 h2).1 (q.2.2.2.2 R h1 h2).2⟩, by dsimp only; omega, ⟨⟨rfl, rfl, rfl, rfl, rfl, rfl, trivial⟩, trivial, rfl, rfl⟩⟩
        · refine call_own (partition_spec (pivot := (b - 1) - (p - a)) hs2 (by omega) (by omega) hb hn) fun v μ6 h' hle' hap hR => ?_
          obtain ⟨⟨ap, rfl⟩, e1, rfl⟩ := hR
          obtain rfl := e1.symm
          obtain ⟨mid, ap', d4, hx⟩ : ∃ mid ap' d4, partition ltInt d2 a b ((b - 1) - (p - a)) = (mid, ap', d4) := ⟨_, _, _, rfl⟩
          rw [hx]
          obtain ⟨q1, q2, q3, q4, q5, q6, q7⟩ := round_part swo_ltInt (partition_holds ltInt) (by omega) (by omega) (by omega) hB hx
          refine num_eq (x := ((mid - a : Nat) : Int)) (by rw [wrap64 (by omega) (by omega)]; omega) ?_
          refine num_eq (x := ((b - mid : Nat) : Int)) (by rw [wrap64 (by omega) (by omega)]; omega) ?_
          refine need_intro (by decide) ?_
          refine num_eq (x := (((b - a) / 8 : Nat) : Int)) (by rw [Int.tdiv_eq_ediv_of_nonneg (by omega), wrap64 (by omega) (by omega)]; omega) ?_
          refine ifd (fun hlt => ?_) (fun hlt => ?_)
          · refine call_own (ih a mid (limit - 1) d4 _ (by omega) (by omega) (by omega) (q3.trans hs2) (by omega) q4) fun v μ7 h' hle7 hap hR => ?_
            obtain ⟨rfl, L, g1, g2, rfl⟩ := hR
            obtain ⟨g3, g4⟩ := q6 L g1 g2
            refine num_eq (x := ((mid + 1 : Nat) : Int)) (by rw [wrap64 (by omega) (by omega)]; omega) ?_
            exact ⟨(mid + 1, b, limit - 1, _, ap, L, μ7), ⟨by dsimp only; omega, hb, by dsimp only; omega, by dsimp only; omega, g1.1.trans (q3.trans hs2), g3, hle.trans hle7, fun R h1 h2 => hfin R (g4 R h1 h2).1 (g4 R h1 h2).2⟩, by dsimp only; omega, ⟨⟨rfl, rfl, rfl, rfl, rfl, rfl, trivial⟩, trivial, rfl, rfl⟩⟩
          · refine num_eq (x := ((mid + 1 : Nat) : Int)) (by rw [wrap64 (by omega) (by omega)]; omega) ?_
            refine call_own (ih (mid + 1) b (limit - 1) d4 _ (by omega) (by omega) (by omega) (q3.trans hs2) (by omega) q5) fun v μ7 h' hle7 hap hR => ?_
            obtain ⟨rfl, L, g1, g2, rfl⟩ := hR
            obtain ⟨g3, g4⟩ := q7 L g1 g2
            exact ⟨(a, mid, limit - 1, _, ap, L, μ7), ⟨by dsimp only; omega, by dsimp only; omega, by dsimp only; omega, by dsimp only; omega, g1.1.trans (q3.trans hs2), g3, hle.trans hle7, fun R h1 h2 => hfin R (g4 R h1 h2).1 (g4 R h1 h2).2⟩, by dsimp only; omega, ⟨⟨rfl, rfl, rfl, rfl, rfl, rfl, trivial⟩, trivial, rfl, rfl⟩⟩
      · refine call_own (partition_spec (pivot := (b - 1) - (p - a)) hs2 (by omega) (by omega) hb hn) fun v μ6 h' hle' hap hR => ?_
        obtain ⟨⟨ap, rfl⟩, e1, rfl⟩ := hR
        obtain rfl := e1.symm
        obtain ⟨mid, ap', d4, hx⟩ : ∃ mid ap' d4, partition ltInt d2 a b ((b - 1) - (p - a)) = (mid, ap', d4) := ⟨_, _, _, rfl⟩
        rw [hx]
        obtain ⟨q1, q2, q3, q4, q5, q6, q7⟩ := round_part swo_ltInt (partition_holds ltInt) (by omega) (by omega) (by omega) hB hx
        refine num_eq (x := ((mid - a : Nat) : Int)) (by rw [wrap64 (by omega) (by omega)]; omega) ?_
        refine num_eq (x := ((b - mid : Nat) : Int)) (by rw [wrap64 (by omega) (by omega)]; omega) ?_
        refine need_intro (by decide) ?_
        refine num_eq (x := (((b - a) / 8 : Nat) : Int)) (by rw [Int.tdiv_eq_ediv_of_nonneg (by omega), wrap64 (by omega) (by omega)]; omega) ?_
        refine ifd (fun hlt => ?_) (fun hlt => ?_)
        · refine call_own (ih a mid (limit - 1) d4 _ (by omega) (by omega) (by omega) (q3.trans hs2) (by omega) q4) fun v μ7 h' hle7 hap hR => ?_
          obtain ⟨rfl, L, g1, g2, rfl⟩ := hR
          obtain ⟨g3, g4⟩ := q6 L g1 g2
          refine num_eq (x := ((mid + 1 : Nat) : Int)) (by rw [wrap64 (by omega) (by omega)]; omega) ?_
          exact ⟨(mid + 1, b, limit - 1, _, ap, L, μ7), ⟨by dsimp only; omega, hb, by dsimp only; omega, by dsimp only; omega, g1.1.trans (q3.trans hs2), g3, hle.trans hle7, fun R h1 h2 => hfin R (g4 R h1 h2).1 (g4 R h1 h2).2⟩, by dsimp only; omega, ⟨⟨rfl, rfl, rfl, rfl, rfl, rfl, trivial⟩, trivial, rfl, rfl⟩⟩
        · refine num_eq (x := ((mid + 1 : Nat) : Int)) (by rw [wrap64 (by omega) (by omega)]; omega) ?_
          refine call_own (ih (mid + 1) b (limit - 1) d4 _ (by omega) (by omega) (by omega) (q3.trans hs2) (by omega) q5) fun v μ7 h' hle7 hap hR => ?_
          obtain ⟨rfl, L, g1, g2, rfl⟩ := hR
          obtain ⟨g3, g4⟩ := q7 L g1 g2
          exact ⟨(a, mid, limit - 1, _, ap, L, μ7), ⟨by dsimp only; omega, by dsimp only; omega, by dsimp only; omega, by dsimp only; omega, g1.1.trans (q3.trans hs2), g3, hle.trans hle7, fun R h1 h2 => hfin R (g4 R h1 h2).1 (g4 R h1 h2).2⟩, by dsimp only; omega, ⟨⟨rfl, rfl, rfl, rfl, rfl, rfl, trivial⟩, trivial, rfl, rfl⟩⟩
    · refine if_intro (fun h => nomatch h) (fun _ => ?_)
      refine ifd (fun ha0 => ?_) (fun ha0 => ?_)
      · refine num_eq (x := ((a - 1 : Nat) : Int)) (by rw [wrap64 (by omega) (by omega)]; omega) ?_
        refine idxI (a - 1) (by omega) (by omega) ?_
        refine rdI (by omega) ?_
        refine idxI (p) (by omega) (by omega) ?_
        refine rdI (by omega) ?_
        refine call_gives (Less_spec _ _) ?_
        refine if_intro (fun hnl => ?_) (fun hnl => ?_)
        · refine call_own (partitionEqual_spec (pivot := p) hs1 (by omega) (by omega) hb hn) fun v μ6 h' hle' hap hR => ?_
          obtain ⟨rfl, e1, rfl⟩ := hR
          obtain rfl := e1.symm
          obtain ⟨mid, d4, hx⟩ : ∃ mid d4, partitionEqual ltInt d1 a b (p) = (mid, d4) := ⟨_, _, rfl⟩
          rw [hx]
          have q := round_eq swo_ltInt (partitionEqual_holds ltInt) (by omega) (by omega) (by omega) (by omega) hB (by simpa using hnl) hx
          have qa := q.1
          exact ⟨(mid, b, limit - 1, false, wp, d4, _), ⟨q.2.1, hb, by dsimp only; omega, by dsimp only; omega, q.2.2.1.trans hs1, q.2.2.2.1, hle, fun R h1 h2 => hfin R (q.2.2.2.2 R h1 h2).1 (q.2.2.2.2 R h1 h2).2⟩, by dsimp only; omega, ⟨⟨rfl, rfl, rfl, rfl, rfl, rfl, trivial⟩, trivial, rfl, rfl⟩⟩
        · refine call_own (partition_spec (pivot := p) hs1 (by omega) (by omega) hb hn) fun v μ6 h' hle' hap hR => ?_
          obtain ⟨⟨ap, rfl⟩, e1, rfl⟩ := hR
          obtain rfl := e1.symm
          obtain ⟨mid, ap', d4, hx⟩ : ∃ mid ap' d4, partition ltInt d1 a b (p) = (mid, ap', d4) := ⟨_, _, _, rfl⟩
          rw [hx]
          obtain ⟨q1, q2, q3, q4, q5, q6, q7⟩ := round_part swo_ltInt (partition_holds ltInt) (by omega) (by omega) (by omega) hB hx
          refine num_eq (x := ((mid - a : Nat) : Int)) (by rw [wrap64 (by omega) (by omega)]; omega) ?_
          refine num_eq (x := ((b - mid : Nat) : Int)) (by rw [wrap64 (by omega) (by omega)]; omega) ?_
          refine need_intro (by decide) ?_
          refine num_eq (x := (((b - a) / 8 : Nat) : Int)) (by rw [Int.tdiv_eq_ediv_of_nonneg (by omega), wrap64 (by omega) (by omega)]; omega) ?_
          refine ifd (fun hlt => ?_) (fun hlt => ?_)
          · refine call_own (ih a mid (limit - 1) d4 _ (by omega) (by omega) (by omega) (q3.trans hs1) (by omega) q4) fun v μ7 h' hle7 hap hR => ?_
            obtain ⟨rfl, L, g1, g2, rfl⟩ := hR
            obtain ⟨g3, g4⟩ := q6 L g1 g2
            refine num_eq (x := ((mid + 1 : Nat) : Int)) (by rw [wrap64 (by omega) (by omega)]; omega) ?_
            exact ⟨(mid + 1, b, limit - 1, _, ap, L, μ7), ⟨by dsimp only; omega, hb, by dsimp only; omega, by dsimp only; omega, g1.1.trans (q3.trans hs1), g3, hle.trans hle7, fun R h1 h2 => hfin R (g4 R h1 h2).1 (g4 R h1 h2).2⟩, by dsimp only; omega, ⟨⟨rfl, rfl, rfl, rfl, rfl, rfl, trivial⟩, trivial, rfl, rfl⟩⟩
          · refine num_eq (x := ((mid + 1 : Nat) : Int)) (by rw [wrap64 (by omega) (by omega)]; omega) ?_
            refine call_own (ih (mid + 1) b (limit - 1) d4 _ (by omega) (by omega) (by omega) (q3.trans hs1) (by omega) q5) fun v μ7 h' hle7 hap hR => ?_
            obtain ⟨rfl, L, g1, g2, rfl⟩ := hR
            obtain ⟨g3, g4⟩ := q7 L g1 g2
            exact ⟨(a, mid, limit - 1, _, ap, L, μ7), ⟨by dsimp only; omega, by dsimp only; omega, by dsimp only; omega, by dsimp only; omega, g1.1.trans (q3.trans hs1), g3, hle.trans hle7, fun R h1 h2 => hfin R (g4 R h1 h2).1 (g4 R h1 h2).2⟩, by dsimp only; omega, ⟨⟨rfl, rfl, rfl, rfl, rfl, rfl, trivial⟩, trivial, rfl, rfl⟩⟩
      · refine call_own (partition_spec (pivot := p) hs1 (by omega) (by omega) hb hn) fun v μ6 h' hle' hap hR => ?_
        obtain ⟨⟨ap, rfl⟩, e1, rfl⟩ := hR
        obtain rfl := e1.symm
        obtain ⟨mid, ap', d4, hx⟩ : ∃ mid ap' d4, partition ltInt d1 a b (p) = (mid, ap', d4) := ⟨_, _, _, rfl⟩
        rw [hx]
        obtain ⟨q1, q2, q3, q4, q5, q6, q7⟩ := round_part swo_ltInt (partition_holds ltInt) (by omega) (by omega) (by omega) hB hx
        refine num_eq (x := ((mid - a : Nat) : Int)) (by rw [wrap64 (by omega) (by omega)]; omega) ?_
        refine num_eq (x := ((b - mid : Nat) : Int)) (by rw [wrap64 (by omega) (by omega)]; omega) ?_
        refine need_intro (by decide) ?_
        refine num_eq (x := (((b - a) / 8 : Nat) : Int)) (by rw [Int.tdiv_eq_ediv_of_nonneg (by omega), wrap64 (by omega) (by omega)]; omega) ?_
        refine ifd (fun hlt => ?_) (fun hlt => ?_)
        · refine call_own (ih a mid (limit - 1) d4 _ (by omega) (by omega) (by omega) (q3.trans hs1) (by omega) q4) fun v μ7 h' hle7 hap hR => ?_
          obtain ⟨rfl, L, g1, g2, rfl⟩ := hR
          obtain ⟨g3, g4⟩ := q6 L g1 g2
          refine num_eq (x := ((mid + 1 : Nat) : Int)) (by rw [wrap64 (by omega) (by omega)]; omega) ?_
          exact ⟨(mid + 1, b, limit - 1, _, ap, L, μ7), ⟨by dsimp only; omega, hb, by dsimp only; omega, by dsimp only; omega, g1.1.trans (q3.trans hs1), g3, hle.trans hle7, fun R h1 h2 => hfin R (g4 R h1 h2).1 (g4 R h1 h2).2⟩, by dsimp only; omega, ⟨⟨rfl, rfl, rfl, rfl, rfl, rfl, trivial⟩, trivial, rfl, rfl⟩⟩
        · refine num_eq (x := ((mid + 1 : Nat) : Int)) (by rw [wrap64 (by omega) (by omega)]; omega) ?_
          refine call_own (ih (mid + 1) b (limit - 1) d4 _ (by omega) (by omega) (by omega) (q3.trans hs1) (by omega) q5) fun v μ7 h' hle7 hap hR => ?_
          obtain ⟨rfl, L, g1, g2, rfl⟩ := hR
          obtain ⟨g3, g4⟩ := q7 L g1 g2
          exact ⟨(a, mid, limit - 1, _, ap, L, μ7), ⟨by dsimp only; omega, by dsimp only; omega, by dsimp only; omega, by dsimp only; omega, g1.1.trans (q3.trans hs1), g3, hle.trans hle7, fun R h1 h2 => hfin R (g4 R h1 h2).1 (g4 R h1 h2).2⟩, by dsimp only; omega, ⟨⟨rfl, rfl, rfl, rfl, rfl, rfl, trivial⟩, trivial, rfl, rfl⟩⟩
  | true =>
    refine if_intro (fun h => nomatch h) (fun _ => ?_)
    have hs1 := hs
    refine call_own (choosePivot_spec hr hs1 (by omega) hb hn) fun v μ3 h' hle' hap hR => ?_
    obtain ⟨p, k, hp1, hp2, hk, rfl, rfl⟩ := hR
    replace hle := hle.trans hle'
    clear hle' hap
    refine ifd (fun hk2 => ?_) (fun hk2 => ?_)
    · refine call_own (reverseRange_spec hs1 (by omega) hab hb hn) fun v μ4 h' hle' hap hR => ?_
      obtain ⟨rfl, e1, rfl⟩ := hR
      obtain rfl := e1.symm
      clear hle' hap
      have p2 := reverseRange_holds d a b hab (by omega)
      generalize reverseRange d a b = d2 at *
      replace hB := hB.perm (by omega) p2
      replace hfin := fun R h1 h2 => hfin R (permIn_trans _ _ _ _ _ p2 h1) h2
      have hs2 : d2.size = n := p2.1.trans hs1
      clear p2
      refine num_eq (x := ((b - 1 : Nat) : Int)) (by rw [wrap64 (by omega) (by omega)]; omega) ?_
      refine num_eq (x := ((p - a : Nat) : Int)) (by rw [wrap64 (by omega) (by omega)]; omega) ?_
      refine num_eq (x := (((b - 1) - (p - a) : Nat) : Int)) (by rw [wrap64 (by omega) (by omega)]; omega) ?_
      refine if_intro (fun _ => ?_) (fun h => nomatch h)
      refine if_intro (fun hwp => ?_) (fun hwp => ?_)
      · refine ifd (fun _ => ?_) (fun h => absurd rfl h)
        refine call_own (partialInsertionSort_spec hs2 (by omega) hb hn) fun v μ5 h' hle' hap hR => ?_
        obtain ⟨rfl, e1, rfl⟩ := hR
        obtain rfl := e1.symm
        clear hle' hap
        have q := partialInsertionSort_holds (lt := ltInt) swo_ltInt d2 a b (by omega) (by omega) hB
        refine if_intro (fun hok => ?_) (fun hok => ?_)
        · exact ret_plain ⟨rfl, _, (hfin _ q.1 (q.2 hok)).1, (hfin _ q.1 (q.2 hok)).2, rfl⟩
        · have q1 := q.1
          clear q hok
          generalize (partialInsertionSort ltInt d2 a b).1 = d3 at *
          replace hB := hB.perm (by omega) q1
          replace hfin := fun R h1 h2 => hfin R (permIn_trans _ _ _ _ _ q1 h1) h2
          have hs3 : d3.size = n := q1.1.trans hs2
          clear q1
          refine ifd (fun ha0 => ?_) (fun ha0 => ?_)
          · refine num_eq (x := ((a - 1 : Nat) : Int)) (by rw [wrap64 (by omega) (by omega)]; omega) ?_
            refine idxI (a - 1) (by omega) (by omega) ?_
            refine rdI (by omega) ?_
            refine idxI ((b - 1) - (p - a)) (by omega) (by omega) ?_
            refine rdI (by omega) ?_
            refine call_gives (Less_spec _ _) ?_
            refine if_intro (fun hnl => ?_) (fun hnl => ?_)
            · refine call_own (partitionEqual_spec (pivot := (b - 1) - (p - a)) hs3 (by omega) (by omega) hb hn) fun v μ6 h' hle' hap hR => ?_
              obtain ⟨rfl, e1, rfl⟩ := hR
              obtain rfl := e1.symm
              obtain ⟨mid, d4, hx⟩ : ∃ mid d4, partitionEqual ltInt d3 a b ((b - 1) - (p - a)) = (mid, d4) := ⟨_, _, rfl⟩
              rw [hx]
              have q := round_eq swo_ltInt (partitionEqual_holds ltInt) (by omega) (by omega) (by omega) (by omega) hB (by simpa using hnl) hx
              have qa := q.1
              exact ⟨(mid, b, limit, true, wp, d4, _), ⟨q.2.1, hb, by dsimp only; omega, by dsimp only; omega, q.2.2.1.trans hs3, q.2.2.2.1, hle, fun R h1 h2 => hfin R (q.2.2.2.2 R h1 h2).1 (q.2.2.2.2 R h1 h2).2⟩, by dsimp only; omega, ⟨⟨rfl, rfl, rfl, rfl, rfl, rfl, trivial⟩, trivial, rfl, rfl⟩⟩
            · refine call_own (partition_spec (pivot := (b - 1) - (p - a)) hs3 (by omega) (by omega) hb hn) fun v μ6 h' hle' hap hR => ?_
              obtain ⟨⟨ap, rfl⟩, e1, rfl⟩ := hR
              obtain rfl := e1.symm
              obtain ⟨mid, ap', d4, hx⟩ : ∃ mid ap' d4, partition ltInt d3 a b ((b - 1) - (p - a)) = (mid, ap', d4) := ⟨_, _, _, rfl⟩
              rw [hx]
              obtain ⟨q1, q2, q3, q4, q5, q6, q7⟩ := round_part swo_ltInt (partition_holds ltInt) (by omega) (by omega) (by omega) hB hx
              refine num_eq (x := ((mid - a : Nat) : Int)) (by rw [wrap64 (by omega) (by omega)]; omega) ?_
              refine num_eq (x := ((b - mid : Nat) : Int)) (by rw [wrap64 (by omega) (by omega)]; omega) ?_
              refine need_intro (by decide) ?_
              refine num_eq (x := (((b - a) / 8 : Nat) : Int)) (by rw [Int.tdiv_eq_ediv_of_nonneg (by omega), wrap64 (by omega) (by omega)]; omega) ?_
              refine ifd (fun hlt => ?_) (fun hlt => ?_)
              · refine call_own (ih a mid (limit) d4 _ (by omega) (by omega) (by omega) (q3.trans hs3) (by omega) q4) fun v μ7 h' hle7 hap hR => ?_
                obtain ⟨rfl, L, g1, g2, rfl⟩ := hR
                obtain ⟨g3, g4⟩ := q6 L g1 g2
                refine num_eq (x := ((mid + 1 : Nat) : Int)) (by rw [wrap64 (by omega) (by omega)]; omega) ?_
                exact ⟨(mid + 1, b, limit, _, ap, L, μ7), ⟨by dsimp only; omega, hb, by dsimp only; omega, by dsimp only; omega, g1.1.trans (q3.trans hs3), g3, hle.trans hle7, fun R h1 h2 => hfin R (g4 R h1 h2).1 (g4 R h1 h2).2⟩, by dsimp only; omega, ⟨⟨rfl, rfl, rfl, rfl, rfl, rfl, trivial⟩, trivial, rfl, rfl⟩⟩
              · refine num_eq (x := ((mid + 1 : Nat) : Int)) (by rw [wrap64 (by omega) (by omega)]; omega) ?_
                refine call_own (ih (mid + 1) b (limit) d4 _ (by omega) (by omega) (by omega) (q3.trans hs3) (by omega) q5) fun v μ7 h' hle7 hap hR => ?_
                obtain ⟨rfl, L, g1, g2, rfl⟩ := hR
                obtain ⟨g3, g4⟩ := q7 L g1 g2
                exact ⟨(a, mid, limit, _, ap, L, μ7), ⟨by dsimp only; omega, by dsimp only; omega, by dsimp only; omega, by dsimp only; omega, g1.1.trans (q3.trans hs3), g3, hle.trans hle7, fun R h1 h2 => hfin R (g4 R h1 h2).1 (g4 R h1 h2).2⟩, by dsimp only; omega, ⟨⟨rfl, rfl, rfl, rfl, rfl, rfl, trivial⟩, trivial, rfl, rfl⟩⟩
          · refine call_own (partition_spec (pivot := (b - 1) - (p - a)) hs3 (by omega) (by omega) hb hn) fun v μ6 h' hle' hap hR => ?_
            obtain ⟨⟨ap, rfl⟩, e1, rfl⟩ := hR
            obtain rfl := e1.symm
            obtain ⟨mid, ap', d4, hx⟩ : ∃ mid ap' d4, partition ltInt d3 a b ((b - 1) - (p - a)) = (mid, ap', d4) := ⟨_, _, _, rfl⟩
            rw [hx]
            obtain ⟨q1, q2, q3, q4, q5, q6, q7⟩ := round_part swo_ltInt (partition_holds ltInt) (by omega) (by omega) (by omega) hB hx
            refine num_eq (x := ((mid - a : Nat) : Int)) (by rw [wrap64 (by omega) (by omega)]; omega) ?_
            refine num_eq (x := ((b - mid : Nat) : Int)) (by rw [wrap64 (by omega) (by omega)]; omega) ?_
            refine need_intro (by decide) ?_
            refine num_eq (x := (((b - a) / 8 : Nat) : Int)) (by rw [Int.tdiv_eq_ediv_of_nonneg (by omega), wrap64 (by omega) (by omega)]; omega) ?_
            refine ifd (fun hlt => ?_) (fun hlt => ?_)
            · refine call_own (ih a mid (limit) d4 _ (by omega) (by omega) (by omega) (q3.trans hs3) (by omega) q4) fun v μ7 h' hle7 hap hR => ?_
              obtain ⟨rfl, L, g1, g2, rfl⟩ := hR
              obtain ⟨g3, g4⟩ := q6 L g1 g2
              refine num_eq (x := ((mid + 1 : Nat) : Int)) (by rw [wrap64 (by omega) (by omega)]; omega) ?_
              exact ⟨(mid + 1, b, limit, _, ap, L, μ7), ⟨by dsimp only; omega, hb, by dsimp only; omega, by dsimp only; omega, g1.1.trans (q3.trans hs3), g3, hle.trans hle7, fun R h1 h2 => hfin R (g4 R h1 h2).1 (g4 R h1 h2).2⟩, by dsimp only; omega, ⟨⟨rfl, rfl, rfl, rfl, rfl, rfl, trivial⟩, trivial, rfl, rfl⟩⟩
            · refine num_eq (x := ((mid + 1 : Nat) : Int)) (by rw [wrap64 (by omega) (by omega)]; omega) ?_
              refine call_own (ih (mid + 1) b (limit) d4 _ (by omega) (by omega) (by omega) (q3.trans hs3) (by omega) q5) fun v μ7 h' hle7 hap hR => ?_
              obtain ⟨rfl, L, g1, g2, rfl⟩ := hR
              obtain ⟨g3, g4⟩ := q7 L g1 g2
              exact ⟨(a, mid, limit, _, ap, L, μ7), ⟨by dsimp only; omega, by dsimp only; omega, by dsimp only; omega, by dsimp only; omega, g1.1.trans (q3.trans hs3), g3, hle.trans hle7, fun R h1 h2 => hfin R (g4 R h1 h2).1 (g4 R h1 h2).2⟩, by dsimp only; omega, ⟨⟨rfl, rfl, rfl, rfl, rfl, rfl, trivial⟩, trivial, rfl, rfl⟩⟩
      · refine ifd (fun ha0 => ?_) (fun ha0 => ?_)
        · refine num_eq (x := ((a - 1 : Nat) : Int)) (by rw [wrap64 (by omega) (by omega)]; omega) ?_
          refine idxI (a - 1) (by omega) (by omega) ?_
          refine rdI (by omega) ?_
          refine idxI ((b - 1) - (p - a)) (by omega) (by omega) ?_
          refine rdI (by omega) ?_
          refine call_gives (Less_spec _ _) ?_
          refine if_intro (fun hnl => ?_) (fun hnl => ?_)
          · refine call_own (partitionEqual_spec (pivot := (b - 1) - (p - a)) hs2 (by omega) (by omega) hb hn) fun v μ6 h' hle' hap hR => ?_
            obtain ⟨rfl, e1, rfl⟩ := hR
            obtain rfl := e1.symm
            obtain ⟨mid, d4, hx⟩ : ∃ mid d4, partitionEqual ltInt d2 a b ((b - 1) - (p - a)) = (mid, d4) := ⟨_, _, rfl⟩
            rw [hx]
            have q := round_eq swo_ltInt (partitionEqual_holds ltInt) (by omega) (by omega) (by omega) (by omega) hB (by simpa using hnl) hx
            have qa := q.1
            exact ⟨(mid, b, limit, true, wp, d4, _), ⟨q.2.1, hb, by dsimp only; omega, by dsimp only; omega, q.2.2.1.trans hs2, q.2.2.2.1, hle, fun R h1 h2 => hfin R (q.2.2.2.2 R h1 h2).1 (q.2.2.2.2 R h1 h2).2⟩, by dsimp only; omega, ⟨⟨rfl, rfl, rfl, rfl, rfl, rfl, trivial⟩, trivial, rfl, rfl⟩⟩
          · refine call_own (partition_spec (pivot := (b - 1) - (p - a)) hs2 (by omega) (by omega) hb hn) fun v μ6 h' hle' hap hR => ?_
            obtain ⟨⟨ap, rfl⟩, e1, rfl⟩ := hR
            obtain rfl := e1.symm
            obtain ⟨mid, ap', d4, hx⟩ : ∃ mid ap' d4, partition ltInt d2 a b ((b - 1) - (p - a)) = (mid, ap', d4) := ⟨_, _, _, rfl⟩
            rw [hx]
            obtain ⟨q1, q2, q3, q4, q5, q6, q7⟩ := round_part swo_ltInt (partition_holds ltInt) (by omega) (by omega) (by omega) hB hx
            refine num_eq (x := ((mid - a : Nat) : Int)) (by rw [wrap64 (by omega) (by omega)]; omega) ?_
            refine num_eq (x := ((b - mid : Nat) : Int)) (by rw [wrap64 (by omega) (by omega)]; omega) ?_
            refine need_intro (by decide) ?_
            refine num_eq (x := (((b - a) / 8 : Nat) : Int)) (by rw [Int.tdiv_eq_ediv_of_nonneg (by omega), wrap64 (by omega) (by omega)]; omega) ?_
            refine ifd (fun hlt => ?_) (fun hlt => ?_)
            · refine call_own (ih a mid (limit) d4 _ (by omega) (by omega) (by omega) (q3.trans hs2) (by omega) q4) fun v μ7 h' hle7 hap hR => ?_
              obtain ⟨rfl, L, g1, g2, rfl⟩ := hR
              obtain ⟨g3, g4⟩ := q6 L g1 g2
              refine num_eq (x := ((mid + 1 : Nat) : Int)) (by rw [wrap64 (by omega) (by omega)]; omega) ?_
              exact ⟨(mid + 1, b, limit, _, ap, L, μ7), ⟨by dsimp only; omega, hb, by dsimp only; omega, by dsimp only; omega, g1.1.trans (q3.trans hs2), g3, hle.trans hle7, fun R h1 h2 => hfin R (g4 R h1 h2).1 (g4 R h1 h2).2⟩, by dsimp only; omega, ⟨⟨rfl, rfl, rfl, rfl, rfl, rfl, trivial⟩, trivial, rfl, rfl⟩⟩
            · refine num_eq (x := ((mid + 1 : Nat) : Int)) (by rw [wrap64 (by omega) (by omega)]; omega) ?_
              refine call_own (ih (mid + 1) b (limit) d4 _ (by omega) (by omega) (by omega) (q3.trans hs2) (by omega) q5) fun v μ7 h' hle7 hap hR => ?_
              obtain ⟨rfl, L, g1, g2, rfl⟩ := hR
              obtain ⟨g3, g4⟩ := q7 L g1 g2
              exact ⟨(a, mid, limit, _, ap, L, μ7), ⟨by dsimp only; omega, by dsimp only; omega, by dsimp only; omega, by dsimp only; omega, g1.1.trans (q3.trans hs2), g3, hle.trans hle7, fun R h1 h2 => hfin R (g4 R h1 h2).1 (g4 R h1 h2).2⟩, by dsimp only; omega, ⟨⟨rfl, rfl, rfl, rfl, rfl, rfl, trivial⟩, trivial, rfl, rfl⟩⟩
        · refine call_own (partition_spec (pivot := (b - 1) - (p - a)) hs2 (by omega) (by omega) hb hn) fun v μ6 h' hle' hap hR => ?_
          obtain ⟨⟨ap, rfl⟩, e1, rfl⟩ := hR
          obtain rfl := e1.symm
          obtain ⟨mid, ap', d4, hx⟩ : ∃ mid ap' d4, partition ltInt d2 a b ((b - 1) - (p - a)) = (mid, ap', d4) := ⟨_, _, _, rfl⟩
          rw [hx]
          obtain ⟨q1, q2, q3, q4, q5, q6, q7⟩ := round_part swo_ltInt (partition_holds ltInt) (by omega) (by omega) (by omega) hB hx
          refine num_eq (x := ((mid - a : Nat) : Int)) (by rw [wrap64 (by omega) (by omega)]; omega) ?_
          refine num_eq (x := ((b - mid : Nat) : Int)) (by rw [wrap64 (by omega) (by omega)]; omega) ?_
          refine need_intro (by decide) ?_
          refine num_eq (x := (((b - a) / 8 : Nat) : Int)) (by rw [Int.tdiv_eq_ediv_of_nonneg (by omega), wrap64 (by omega) (by omega)]; omega) ?_
          refine ifd (fun hlt => ?_) (fun hlt => ?_)
          · refine call_own (ih a mid (limit) d4 _ (by omega) (by omega) (by omega) (q3.trans hs2) (by omega) q4) fun v μ7 h' hle7 hap hR => ?_
            obtain ⟨rfl, L, g1, g2, rfl⟩ := hR
            obtain ⟨g3, g4⟩ := q6 L g1 g2
            refine num_eq (x := ((mid + 1 : Nat) : Int)) (by rw [wrap64 (by omega) (by omega)]; omega) ?_
            exact ⟨(mid + 1, b, limit, _, ap, L, μ7), ⟨by dsimp only; omega, hb, by dsimp only; omega, by dsimp only; omega, g1.1.trans (q3.trans hs2), g3, hle.trans hle7, fun R h1 h2 => hfin R (g4 R h1 h2).1 (g4 R h1 h2).2⟩, by dsimp only; omega, ⟨⟨rfl, rfl, rfl, rfl, rfl, rfl, trivial⟩, trivial, rfl, rfl⟩⟩
          · refine num_eq (x := ((mid + 1 : Nat) : Int)) (by rw [wrap64 (by omega) (by omega)]; omega) ?_
            refine call_own (ih (mid + 1) b (limit) d4 _ (by omega) (by omega) (by omega) (q3.trans hs2) (by omega) q5) fun v μ7 h' hle7 hap hR => ?_
            obtain ⟨rfl, L, g1, g2, rfl⟩ := hR
            obtain ⟨g3, g4⟩ := q7 L g1 g2
            exact ⟨(a, mid, limit, _, ap, L, μ7), ⟨by dsimp only; omega, by dsimp only; omega, by dsimp only; omega, by dsimp only; omega, g1.1.trans (q3.trans hs2), g3, hle.trans hle7, fun R h1 h2 => hfin R (g4 R h1 h2).1 (g4 R h1 h2).2⟩, by dsimp only; omega, ⟨⟨rfl, rfl, rfl, rfl, rfl, rfl, trivial⟩, trivial, rfl, rfl⟩⟩
    · refine if_intro (fun _ => ?_) (fun h => nomatch h)
      refine if_intro (fun hwp => ?_) (fun hwp => ?_)
      · refine ifd (fun hk1 => ?_) (fun hk1 => ?_)
        · refine call_own (partialInsertionSort_spec hs1 (by omega) hb hn) fun v μ5 h' hle' hap hR => ?_
          obtain ⟨rfl, e1, rfl⟩ := hR
          obtain rfl := e1.symm
          clear hle' hap
          have q := partialInsertionSort_holds (lt := ltInt) swo_ltInt d a b (by omega) (by omega) hB
          refine if_intro (fun hok => ?_) (fun hok => ?_)
          · exact ret_plain ⟨rfl, _, (hfin _ q.1 (q.2 hok)).1, (hfin _ q.1 (q.2 hok)).2, rfl⟩
          · have q1 := q.1
            clear q hok
            generalize (partialInsertionSort ltInt d a b).1 = d3 at *
            replace hB := hB.perm (by omega) q1
            replace hfin := fun R h1 h2 => hfin R (permIn_trans _ _ _ _ _ q1 h1) h2
            have hs3 : d3.size = n := q1.1.trans hs1
            clear q1
            refine ifd (fun ha0 => ?_) (fun ha0 => ?_)
            · refine num_eq (x := ((a - 1 : Nat) : Int)) (by rw [wrap64 (by omega) (by omega)]; omega) ?_
              refine idxI (a - 1) (by omega) (by omega) ?_
              refine rdI (by omega) ?_
              refine idxI (p) (by omega) (by omega) ?_
              refine rdI (by omega) ?_
              refine call_gives (Less_spec _ _) ?_
              refine if_intro (fun hnl => ?_) (fun hnl => ?_)
              · refine call_own (partitionEqual_spec (pivot := p) hs3 (by omega) (by omega) hb hn) fun v μ6 h' hle' hap hR => ?_
                obtain ⟨rfl, e1, rfl⟩ := hR
                obtain rfl := e1.symm
                obtain ⟨mid, d4, hx⟩ : ∃ mid d4, partitionEqual ltInt d3 a b (p) = (mid, d4) := ⟨_, _, rfl⟩
                rw [hx]
                have q := round_eq swo_ltInt (partitionEqual_holds ltInt) (by omega) (by omega) (by omega) (by omega) hB (by simpa using hnl) hx
                have qa := q.1
                exact ⟨(mid, b, limit, true, wp, d4, _), ⟨q.2.1, hb, by dsimp only; omega, by dsimp only; omega, q.2.2.1.trans hs3, q.2.2.2.1, hle, fun R h1 h2 => hfin R (q.2.2.2.2 R h1 h2).1 (q.2.2.2.2 R h1 h2).2⟩, by dsimp only; omega, ⟨⟨rfl, rfl, rfl, rfl, rfl, rfl, trivial⟩, trivial, rfl, rfl⟩⟩
              · refine call_own (partition_spec (pivot := p) hs3 (by omega) (by omega) hb hn) fun v μ6 h' hle' hap hR => ?_
                obtain ⟨⟨ap, rfl⟩, e1, rfl⟩ := hR
                obtain rfl := e1.symm
                obtain ⟨mid, ap', d4, hx⟩ : ∃ mid ap' d4, partition ltInt d3 a b (p) = (mid, ap', d4) := ⟨_, _, _, rfl⟩
                rw [hx]
                obtain ⟨q1, q2, q3, q4, q5, q6, q7⟩ := round_part swo_ltInt (partition_holds ltInt) (by omega) (by omega) (by omega) hB hx
                refine num_eq (x := ((mid - a : Nat) : Int)) (by rw [wrap64 (by omega) (by omega)]; omega) ?_
                refine num_eq (x := ((b - mid : Nat) : Int)) (by rw [wrap64 (by omega) (by omega)]; omega) ?_
                refine need_intro (by decide) ?_
                refine num_eq (x := (((b - a) / 8 : Nat) : Int)) (by rw [Int.tdiv_eq_ediv_of_nonneg (by omega), wrap64 (by omega) (by omega)]; omega) ?_
                refine ifd (fun hlt => ?_) (fun hlt => ?_)
                · refine call_own (ih a mid (limit) d4 _ (by omega) (by omega) (by omega) (q3.trans hs3) (by omega) q4) fun v μ7 h' hle7 hap hR => ?_
                  obtain ⟨rfl, L, g1, g2, rfl⟩ := hR
                  obtain ⟨g3, g4⟩ := q6 L g1 g2
                  refine num_eq (x := ((mid + 1 : Nat) : Int)) (by rw [wrap64 (by omega) (by omega)]; omega) ?_
                  exact ⟨(mid + 1, b, limit, _, ap, L, μ7), ⟨by dsimp only; omega, hb, by dsimp only; omega, by dsimp only; omega, g1.1.trans (q3.trans hs3), g3, hle.trans hle7, fun R h1 h2 => hfin R (g4 R h1 h2).1 (g4 R h1 h2).2⟩, by dsimp only; omega, ⟨⟨rfl, rfl, rfl, rfl, rfl, rfl, trivial⟩, trivial, rfl, rfl⟩⟩
                · refine num_eq (x := ((mid + 1 : Nat) : Int)) (by rw [wrap64 (by omega) (by omega)]; omega) ?_
                  refine call_own (ih (mid + 1) b (limit) d4 _ (by omega) (by omega) (by omega) (q3.trans hs3) (by omega) q5) fun v μ7 h' hle7 hap hR => ?_
                  obtain ⟨rfl, L, g1, g2, rfl⟩ := hR
                  obtain ⟨g3, g4⟩ := q7 L g1 g2
                  exact ⟨(a, mid, limit, _, ap, L, μ7), ⟨by dsimp only; omega, by dsimp only; omega, by dsimp only; omega, by dsimp only; omega, g1.1.trans (q3.trans hs3), g3, hle.trans hle7, fun R h1 h2 => hfin R (g4 R h1 h2).1 (g4 R h1 h2).2⟩, by dsimp only; omega, ⟨⟨rfl, rfl, rfl, rfl, rfl, rfl, trivial⟩, trivial, rfl, rfl⟩⟩
            · refine call_own (partition_spec (pivot := p) hs3 (by omega) (by omega) hb hn) fun v μ6 h' hle' hap hR => ?_
              obtain ⟨⟨ap, rfl⟩, e1, rfl⟩ := hR
              obtain rfl := e1.symm
              obtain ⟨mid, ap', d4, hx⟩ : ∃ mid ap' d4, partition ltInt d3 a b (p) = (mid, ap', d4) := ⟨_, _, _, rfl⟩
              rw [hx]
              obtain ⟨q1, q2, q3, q4, q5, q6, q7⟩ := round_part swo_ltInt (partition_holds ltInt) (by omega) (by omega) (by omega) hB hx
              refine num_eq (x := ((mid - a : Nat) : Int)) (by rw [wrap64 (by omega) (by omega)]; omega) ?_
              refine num_eq (x := ((b - mid : Nat) : Int)) (by rw [wrap64 (by omega) (by omega)]; omega) ?_
              refine need_intro (by decide) ?_
              refine num_eq (x := (((b - a) / 8 : Nat) : Int)) (by rw [Int.tdiv_eq_ediv_of_nonneg (by omega), wrap64 (by omega) (by omega)]; omega) ?_
              refine ifd (fun hlt => ?_) (fun hlt => ?_)
              · refine call_own (ih a mid (limit) d4 _ (by omega) (by omega) (by omega) (q3.trans hs3) (by omega) q4) fun v μ7 h' hle7 hap hR => ?_
                obtain ⟨rfl, L, g1, g2, rfl⟩ := hR
                obtain ⟨g3, g4⟩ := q6 L g1 g2
                refine num_eq (x := ((mid + 1 : Nat) : Int)) (by rw [wrap64 (by omega) (by omega)]; omega) ?_
                exact ⟨(mid + 1, b, limit, _, ap, L, μ7), ⟨by dsimp only; omega, hb, by dsimp only; omega, by dsimp only; omega, g1.1.trans (q3.trans hs3), g3, hle.trans hle7, fun R h1 h2 => hfin R (g4 R h1 h2).1 (g4 R h1 h2).2⟩, by dsimp only; omega, ⟨⟨rfl, rfl, rfl, rfl, rfl, rfl, trivial⟩, trivial, rfl, rfl⟩⟩
              · refine num_eq (x := ((mid + 1 : Nat) : Int)) (by rw [wrap64 (by omega) (by omega)]; omega) ?_
                refine call_own (ih (mid + 1) b (limit) d4 _ (by omega) (by omega) (by omega) (q3.trans hs3) (by omega) q5) fun v μ7 h' hle7 hap hR => ?_
                obtain ⟨rfl, L, g1, g2, rfl⟩ := hR
                obtain ⟨g3, g4⟩ := q7 L g1 g2
                exact ⟨(a, mid, limit, _, ap, L, μ7), ⟨by dsimp only; omega, by dsimp only; omega, by dsimp only; omega, by dsimp only; omega, g1.1.trans (q3.trans hs3), g3, hle.trans hle7, fun R h1 h2 => hfin R (g4 R h1 h2).1 (g4 R h1 h2).2⟩, by dsimp only; omega, ⟨⟨rfl, rfl, rfl, rfl, rfl, rfl, trivial⟩, trivial, rfl, rfl⟩⟩
        · refine ifd (fun ha0 => ?_) (fun ha0 => ?_)
          · refine num_eq (x := ((a - 1 : Nat) : Int)) (by rw [wrap64 (by omega) (by omega)]; omega) ?_
            refine idxI (a - 1) (by omega) (by omega) ?_
            refine rdI (by omega) ?_
            refine idxI (p) (by omega) (by omega) ?_
            refine rdI (by omega) ?_
            refine call_gives (Less_spec _ _) ?_
            refine if_intro (fun hnl => ?_) (fun hnl => ?_)
            · refine call_own (partitionEqual_spec (pivot := p) hs1 (by omega) (by omega) hb hn) fun v μ6 h' hle' hap hR => ?_
              obtain ⟨rfl, e1, rfl⟩ := hR
              obtain rfl := e1.symm
              obtain ⟨mid, d4, hx⟩ : ∃ mid d4, partitionEqual ltInt d a b (p) = (mid, d4) := ⟨_, _, rfl⟩
              rw [hx]
              have q := round_eq swo_ltInt (partitionEqual_holds ltInt) (by omega) (by omega) (by omega) (by omega) hB (by simpa using hnl) hx
              have qa := q.1
              exact ⟨(mid, b, limit, true, wp, d4, _), ⟨q.2.1, hb, by dsimp only; omega, by dsimp only; omega, q.2.2.1.trans hs1, q.2.2.2.1, hle, fun R h1 h2 => hfin R (q.2.2.2.2 R h1 h2).1 (q.2.2.2.2 R h1 h2).2⟩, by dsimp only; omega, ⟨⟨rfl, rfl, rfl, rfl, rfl, rfl, trivial⟩, trivial, rfl, rfl⟩⟩
            · refine call_own (partition_spec (pivot := p) hs1 (by omega) (by omega) hb hn) fun v μ6 h' hle' hap hR => ?_
              obtain ⟨⟨ap, rfl⟩, e1, rfl⟩ := hR
              obtain rfl := e1.symm
              obtain ⟨mid, ap', d4, hx⟩ : ∃ mid ap' d4, partition ltInt d a b (p) = (mid, ap', d4) := ⟨_, _, _, rfl⟩
              rw [hx]
              obtain ⟨q1, q2, q3, q4, q5, q6, q7⟩ := round_part swo_ltInt (partition_holds ltInt) (by omega) (by omega) (by omega) hB hx
              refine num_eq (x := ((mid - a : Nat) : Int)) (by rw [wrap64 (by omega) (by omega)]; omega) ?_
              refine num_eq (x := ((b - mid : Nat) : Int)) (by rw [wrap64 (by omega) (by omega)]; omega) ?_
              refine need_intro (by decide) ?_
              refine num_eq (x := (((b - a) / 8 : Nat) : Int)) (by rw [Int.tdiv_eq_ediv_of_nonneg (by omega), wrap64 (by omega) (by omega)]; omega) ?_
              refine ifd (fun hlt => ?_) (fun hlt => ?_)
              · refine call_own (ih a mid (limit) d4 _ (by omega) (by omega) (by omega) (q3.trans hs1) (by omega) q4) fun v μ7 h' hle7 hap hR => ?_
                obtain ⟨rfl, L, g1, g2, rfl⟩ := hR
                obtain ⟨g3, g4⟩ := q6 L g1 g2
                refine num_eq (x := ((mid + 1 : Nat) : Int)) (by rw [wrap64 (by omega) (by omega)]; omega) ?_
                exact ⟨(mid + 1, b, limit, _, ap, L, μ7), ⟨by dsimp only; omega, hb, by dsimp only; omega, by dsimp only; omega, g1.1.trans (q3.trans hs1), g3, hle.trans hle7, fun R h1 h2 => hfin R (g4 R h1 h2).1 (g4 R h1 h2).2⟩, by dsimp only; omega, ⟨⟨rfl, rfl, rfl, rfl, rfl, rfl, trivial⟩, trivial, rfl, rfl⟩⟩
              · refine num_eq (x := ((mid + 1 : Nat) : Int)) (by rw [wrap64 (by omega) (by omega)]; omega) ?_
                refine call_own (ih (mid + 1) b (limit) d4 _ (by omega) (by omega) (by omega) (q3.trans hs1) (by omega) q5) fun v μ7 h' hle7 hap hR => ?_
                obtain ⟨rfl, L, g1, g2, rfl⟩ := hR
                obtain ⟨g3, g4⟩ := q7 L g1 g2
                exact ⟨(a, mid, limit, _, ap, L, μ7), ⟨by dsimp only; omega, by dsimp only; omega, by dsimp only; omega, by dsimp only; omega, g1.1.trans (q3.trans hs1), g3, hle.trans hle7, fun R h1 h2 => hfin R (g4 R h1 h2).1 (g4 R h1 h2).2⟩, by dsimp only; omega, ⟨⟨rfl, rfl, rfl, rfl, rfl, rfl, trivial⟩, trivial, rfl, rfl⟩⟩
          · refine call_own (partition_spec (pivot := p) hs1 (by omega) (by omega) hb hn) fun v μ6 h' hle' hap hR => ?_
            obtain ⟨⟨ap, rfl⟩, e1, rfl⟩ := hR
            obtain rfl := e1.symm
            obtain ⟨mid, ap', d4, hx⟩ : ∃ mid ap' d4, partition ltInt d a b (p) = (mid, ap', d4) := ⟨_, _, _, rfl⟩
            rw [hx]
            obtain ⟨q1, q2, q3, q4, q5, q6, q7⟩ := round_part swo_ltInt (partition_holds ltInt) (by omega) (by omega) (by omega) hB hx
            refine num_eq (x := ((mid - a : Nat) : Int)) (by rw [wrap64 (by omega) (by omega)]; omega) ?_
            refine num_eq (x := ((b - mid : Nat) : Int)) (by rw [wrap64 (by omega) (by omega)]; omega) ?_
            refine need_intro (by decide) ?_
            refine num_eq (x := (((b - a) / 8 : Nat) : Int)) (by rw [Int.tdiv_eq_ediv_of_nonneg (by omega), wrap64 (by omega) (by omega)]; omega) ?_
            refine ifd (fun hlt => ?_) (fun hlt => ?_)
            · refine call_own (ih a mid (limit) d4 _ (by omega) (by omega) (by omega) (q3.trans hs1) (by omega) q4) fun v μ7 h' hle7 hap hR => ?_
              obtain ⟨rfl, L, g1, g2, rfl⟩ := hR
              obtain ⟨g3, g4⟩ := q6 L g1 g2
              refine num_eq (x := ((mid + 1 : Nat) : Int)) (by rw [wrap64 (by omega) (by omega)]; omega) ?_
              exact ⟨(mid + 1, b, limit, _, ap, L, μ7), ⟨by dsimp only; omega, hb, by dsimp only; omega, by dsimp only; omega, g1.1.trans (q3.trans hs1), g3, hle.trans hle7, fun R h1 h2 => hfin R (g4 R h1 h2).1 (g4 R h1 h2).2⟩, by dsimp only; omega, ⟨⟨rfl, rfl, rfl, rfl, rfl, rfl, trivial⟩, trivial, rfl, rfl⟩⟩
            · refine num_eq (x := ((mid + 1 : Nat) : Int)) (by rw [wrap64 (by omega) (by omega)]; omega) ?_
              refine call_own (ih (mid + 1) b (limit) d4 _ (by omega) (by omega) (by omega) (q3.trans hs1) (by omega) q5) fun v μ7 h' hle7 hap hR => ?_
              obtain ⟨rfl, L, g1, g2, rfl⟩ := hR
              obtain ⟨g3, g4⟩ := q7 L g1 g2
              exact ⟨(a, mid, limit, _, ap, L, μ7), ⟨by dsimp only; omega, by dsimp only; omega, by dsimp only; omega, by dsimp only; omega, g1.1.trans (q3.trans hs1), g3, hle.trans hle7, fun R h1 h2 => hfin R (g4 R h1 h2).1 (g4 R h1 h2).2⟩, by dsimp only; omega, ⟨⟨rfl, rfl, rfl, rfl, rfl, rfl, trivial⟩, trivial, rfl, rfl⟩⟩
      · refine ifd (fun ha0 => ?_) (fun ha0 => ?_)
        · refine num_eq (x := ((a - 1 : Nat) : Int)) (by rw [wrap64 (by omega) (by omega)]; omega) ?_
          refine idxI (a - 1) (by omega) (by omega) ?_
          refine rdI (by omega) ?_
          refine idxI (p) (by omega) (by omega) ?_
          refine rdI (by omega) ?_
          refine call_gives (Less_spec _ _) ?_
          refine if_intro (fun hnl => ?_) (fun hnl => ?_)
          · refine call_own (partitionEqual_spec (pivot := p) hs1 (by omega) (by omega) hb hn) fun v μ6 h' hle' hap hR => ?_
            obtain ⟨rfl, e1, rfl⟩ := hR
            obtain rfl := e1.symm
            obtain ⟨mid, d4, hx⟩ : ∃ mid d4, partitionEqual ltInt d a b (p) = (mid, d4) := ⟨_, _, rfl⟩
            rw [hx]
            have q := round_eq swo_ltInt (partitionEqual_holds ltInt) (by omega) (by omega) (by omega) (by omega) hB (by simpa using hnl) hx
            have qa := q.1
            exact ⟨(mid, b, limit, true, wp, d4, _), ⟨q.2.1, hb, by dsimp only; omega, by dsimp only; omega, q.2.2.1.trans hs1, q.2.2.2.1, hle, fun R h1 h2 => hfin R (q.2.2.2.2 R h1 h2).1 (q.2.2.2.2 R h1 h2).2⟩, by dsimp only; omega, ⟨⟨rfl, rfl, rfl, rfl, rfl, rfl, trivial⟩, trivial, rfl, rfl⟩⟩
          · refine call_own (partition_spec (pivot := p) hs1 (by omega) (by omega) hb hn) fun v μ6 h' hle' hap hR => ?_
            obtain ⟨⟨ap, rfl⟩, e1, rfl⟩ := hR
            obtain rfl := e1.symm
            obtain ⟨mid, ap', d4, hx⟩ : ∃ mid ap' d4, partition ltInt d a b (p) = (mid, ap', d4) := ⟨_, _, _, rfl⟩
            rw [hx]
            obtain ⟨q1, q2, q3, q4, q5, q6, q7⟩ := round_part swo_ltInt (partition_holds ltInt) (by omega) (by omega) (by omega) hB hx
            refine num_eq (x := ((mid - a : Nat) : Int)) (by rw [wrap64 (by omega) (by omega)]; omega) ?_
            refine num_eq (x := ((b - mid : Nat) : Int)) (by rw [wrap64 (by omega) (by omega)]; omega) ?_
            refine need_intro (by decide) ?_
            refine num_eq (x := (((b - a) / 8 : Nat) : Int)) (by rw [Int.tdiv_eq_ediv_of_nonneg (by omega), wrap64 (by omega) (by omega)]; omega) ?_
            refine ifd (fun hlt => ?_) (fun hlt => ?_)
            · refine call_own (ih a mid (limit) d4 _ (by omega) (by omega) (by omega) (q3.trans hs1) (by omega) q4) fun v μ7 h' hle7 hap hR => ?_
              obtain ⟨rfl, L, g1, g2, rfl⟩ := hR
              obtain ⟨g3, g4⟩ := q6 L g1 g2
              refine num_eq (x := ((mid + 1 : Nat) : Int)) (by rw [wrap64 (by omega) (by omega)]; omega) ?_
              exact ⟨(mid + 1, b, limit, _, ap, L, μ7), ⟨by dsimp only; omega, hb, by dsimp only; omega, by dsimp only; omega, g1.1.trans (q3.trans hs1), g3, hle.trans hle7, fun R h1 h2 => hfin R (g4 R h1 h2).1 (g4 R h1 h2).2⟩, by dsimp only; omega, ⟨⟨rfl, rfl, rfl, rfl, rfl, rfl, trivial⟩, trivial, rfl, rfl⟩⟩
            · refine num_eq (x := ((mid + 1 : Nat) : Int)) (by rw [wrap64 (by omega) (by omega)]; omega) ?_
              refine call_own (ih (mid + 1) b (limit) d4 _ (by omega) (by omega) (by omega) (q3.trans hs1) (by omega) q5) fun v μ7 h' hle7 hap hR => ?_
              obtain ⟨rfl, L, g1, g2, rfl⟩ := hR
              obtain ⟨g3, g4⟩ := q7 L g1 g2
              exact ⟨(a, mid, limit, _, ap, L, μ7), ⟨by dsimp only; omega, by dsimp only; omega, by dsimp only; omega, by dsimp only; omega, g1.1.trans (q3.trans hs1), g3, hle.trans hle7, fun R h1 h2 => hfin R (g4 R h1 h2).1 (g4 R h1 h2).2⟩, by dsimp only; omega, ⟨⟨rfl, rfl, rfl, rfl, rfl, rfl, trivial⟩, trivial, rfl, rfl⟩⟩
        · refine call_own (partition_spec (pivot := p) hs1 (by omega) (by omega) hb hn) fun v μ6 h' hle' hap hR => ?_
          obtain ⟨⟨ap, rfl⟩, e1, rfl⟩ := hR
          obtain rfl := e1.symm
          obtain ⟨mid, ap', d4, hx⟩ : ∃ mid ap' d4, partition ltInt d a b (p) = (mid, ap', d4) := ⟨_, _, _, rfl⟩
          rw [hx]
          obtain ⟨q1, q2, q3, q4, q5, q6, q7⟩ := round_part swo_ltInt (partition_holds ltInt) (by omega) (by omega) (by omega) hB hx
          refine num_eq (x := ((mid - a : Nat) : Int)) (by rw [wrap64 (by omega) (by omega)]; omega) ?_
          refine num_eq (x := ((b - mid : Nat) : Int)) (by rw [wrap64 (by omega) (by omega)]; omega) ?_
          refine need_intro (by decide) ?_
          refine num_eq (x := (((b - a) / 8 : Nat) : Int)) (by rw [Int.tdiv_eq_ediv_of_nonneg (by omega), wrap64 (by omega) (by omega)]; omega) ?_
          refine ifd (fun hlt => ?_) (fun hlt => ?_)
          · refine call_own (ih a mid (limit) d4 _ (by omega) (by omega) (by omega) (q3.trans hs1) (by omega) q4) fun v μ7 h' hle7 hap hR => ?_
            obtain ⟨rfl, L, g1, g2, rfl⟩ := hR
            obtain ⟨g3, g4⟩ := q6 L g1 g2
            refine num_eq (x := ((mid + 1 : Nat) : Int)) (by rw [wrap64 (by omega) (by omega)]; omega) ?_
            exact ⟨(mid + 1, b, limit, _, ap, L, μ7), ⟨by dsimp only; omega, hb, by dsimp only; omega, by dsimp only; omega, g1.1.trans (q3.trans hs1), g3, hle.trans hle7, fun R h1 h2 => hfin R (g4 R h1 h2).1 (g4 R h1 h2).2⟩, by dsimp only; omega, ⟨⟨rfl, rfl, rfl, rfl, rfl, rfl, trivial⟩, trivial, rfl, rfl⟩⟩
          · refine num_eq (x := ((mid + 1 : Nat) : Int)) (by rw [wrap64 (by omega) (by omega)]; omega) ?_
            refine call_own (ih (mid + 1) b (limit) d4 _ (by omega) (by omega) (by omega) (q3.trans hs1) (by omega) q5) fun v μ7 h' hle7 hap hR => ?_
            obtain ⟨rfl, L, g1, g2, rfl⟩ := hR
            obtain ⟨g3, g4⟩ := q7 L g1 g2
            exact ⟨(a, mid, limit, _, ap, L, μ7), ⟨by dsimp only; omega, by dsimp only; omega, by dsimp only; omega, by dsimp only; omega, g1.1.trans (q3.trans hs1), g3, hle.trans hle7, fun R h1 h2 => hfin R (g4 R h1 h2).1 (g4 R h1 h2).2⟩, by dsimp only; omega, ⟨⟨rfl, rfl, rfl, rfl, rfl, rfl, trivial⟩, trivial, rfl, rfl⟩⟩
end
end Go.Vx

/- Contracts: sort.Ints. -/
namespace Go.Vx
open Go.Proofs Classical
open Go.Sort
section
variable {h0 μ : Mem} {r : Nat} {ty : TypeId} {rest : List Value}
theorem Sort_spec {n cap : Nat} {d : Array Int} (hr : h0 r = none) (hd : d.size = n) (hn : n ≤ 1000000000000) :
    SpecH Try.prog 82 [.slice (some ⟨r, 0, none⟩) n cap] μ (RowI h0 r ty rest d) fun v μ' h' => v = .tuple #[] ∧ h' = RowI h0 r ty rest (d.toList.mergeSort fun x y => decide (x ≤ y)).toArray := by
  refine SpecH.mk [] Try.func82 (by kernel_rfl) ?_
  refine num_eq (x := (n : Int)) (by
    show (n : Int) % 18446744073709551616 = _
    omega) ?_
  refine call_gives (Len_spec (by omega)) ?_
  have hL : bitsLen n ≤ 40 := (bitsLen_le_iff n 40).2 (by omega)
  refine call_own (pdqsort_spec hr hn (n + 1) 0 n (bitsLen n) d μ (by omega) (by omega) (Nat.le_refl _) hd (by omega) (.inl rfl)) fun v μ' h' hle hap hR => ?_
  obtain ⟨rfl, d', p1, p2, rfl⟩ := hR
  have e := sorted_unique_holds (lt := ltInt) swo_ltInt (fun x y h1 h2 => by
    simp only [ltInt, decide_eq_false_iff_not] at h1 h2
    omega) d d' (by rw [hd]; exact p1) (by rw [hd]; exact p2)
  have e2 : (fun x y => !ltInt y x) = fun x y : Int => decide (x ≤ y) := by
    funext x y
    simp only [ltInt]
    by_cases h : x ≤ y
    · rw [decide_eq_true h, decide_eq_false (by omega)]; rfl
    · rw [decide_eq_false h, decide_eq_true (by omega)]; rfl
  rw [e2] at e
  refine ret_plain ⟨rfl, ?_⟩
  rw [← e]
theorem Ints_spec {n cap : Nat} {d : Array Int} (hr : h0 r = none) (hd : d.size = n) (hn : n ≤ 1000000000000) :
    SpecH Try.prog 80 [.slice (some ⟨r, 0, none⟩) n cap] μ (RowI h0 r ty rest d) fun v μ' h' => v = .tuple #[] ∧ h' = RowI h0 r ty rest (d.toList.mergeSort fun x y => decide (x ≤ y)).toArray := by
  refine SpecH.mk [] Try.func80 (by kernel_rfl) ?_
  refine call_own (Sort_spec hr hd hn) fun v μ' h' hle hap hR => ?_
  obtain ⟨rfl, rfl⟩ := hR
  exact ret_plain ⟨rfl, rfl⟩
end
end Go.Vx

/- Contracts: lists of bindings, and the reference's substitutions. -/
namespace Go.Vx
open Go.Proofs Classical
/-! ### Plain -/
noncomputable def Tm.toT (t : Tm) : T := if h : ∃ x : T, x.tm = t then h.choose else .nil
theorem T.toT_tm (x : T) : x.tm.toT = x := by
  have h : ∃ y : T, y.tm = x.tm := ⟨x, rfl⟩
  rw [Tm.toT, dif_pos h]
  exact T.tm_inj h.choose_spec
theorem Tm.Ok.toT {t : Tm} (h : t.Ok) : t.toT.ok ∧ t.toT.tm = t := by
  obtain ⟨x, h1, rfl⟩ := h.lift
  rw [T.toT_tm]; exact ⟨h1, rfl⟩
structure B where
  var : Int
  to : T
def B.bd (b : B) : Bd := ⟨b.var, b.to.tm⟩
noncomputable def Bd.b (b : Bd) : B := ⟨b.var, b.to.toT⟩
/-- Binding i of a list is fine. -/
def okAt (l : List Bd) (i : Nat) (b : Bd) : Prop := (0 ≤ b.var ∧ b.var ≤ 100000) ∧ b.to.Ok ∧ ∀ j c, j + 1 = i → l[j]? = some c → c.var < b.var
def valsOk (l : List Bd) : Prop := l.length ≤ 400 ∧ ∀ i b, l[i]? = some b → okAt l i b
theorem valsOk.lift {l : List Bd} (h : valsOk l) : (l.map Bd.b).map B.bd = l ∧ (∀ b ∈ l.map Bd.b, b.to.ok) := by
  have h2 : ∀ b ∈ l, b.to.Ok := fun b hb => by
    obtain ⟨i, hi⟩ := List.mem_iff_getElem?.1 hb
    exact (h.2 i b hi).2.1
  clear h
  induction l with
  | nil => simp
  | cons b l ih =>
    have h1 := (h2 b (by simp)).toT
    obtain ⟨i1, i2⟩ := ih fun b hb => h2 b (by simp [hb])
    refine ⟨?_, ?_⟩
    · simp only [List.map_cons, i1, List.cons.injEq, and_true, Bd.b, B.bd, h1.2]
    · intro c hc
      simp only [List.map_cons, List.mem_cons] at hc
      rcases hc with rfl | hc
      · exact h1.1
      · exact i2 c hc
def sub : List B → Int → Option T
  | [], _ => none
  | b :: r, n => if b.var = n then some b.to else sub r n
def T.subst (f : Int → Option T) : T → T
  | .var n => (f n).getD (.var n)
  | .pair a b => .pair (a.subst f) (b.subst f)
  | .nil => .nil
  | .sym s => .sym s
  | .num n => .num n
theorem drop_at {α : Type} {l : List α} {i : Nat} {a : α} (h : l[i]? = some a) : l.drop i = a :: l.drop (i + 1) := by
  obtain ⟨h1, h2⟩ := List.getElem?_eq_some_iff.1 h
  rw [List.drop_eq_getElem_cons h1, h2]
section
variable {μ : Mem}
theorem T.fits (x : T) : (upTo (x.size : Int) 5000 ≤ 5000) ↔ x.size ≤ 5000 := by unfold upTo; omega
/-- An element's term. -/
theorem Bd.toV {b : Bd} {p : Option Addr × Nat} (h : RepV μ b.d (.agg (b.cs p).toArray)) : RepV μ b.to.d (.agg (b.to.cs p).toArray) := by
  obtain ⟨q, e, hto⟩ := Bd.inv h
  have hq : q = p := by
    have h2 := congrArg (fun v => match v with | Value.agg a => a[4]? | _ => none) e
    simp [Bd.cs] at h2
    exact Prod.ext h2.1.symm h2.2.symm
  rw [← hq]; exact hto
/-! ### The reference's -/
end
end Go.Vx

/- Contracts: marks on terms and bindings, and what holds them. -/
namespace Go.Vx
open Go.Proofs Classical
/-- A row of owned data in the midst of being marked: i elements are done; hh is what the elements own. -/
structure Marking (xs : List D) (k : Int) (rest : List Value) (r : Nat) (j : Nat) (pre tail : List Value) (hh : Mem) : Prop where
  le : j ≤ xs.length
  out : hh r = none
  parts : ∃ post hpre hpost, tail = post ++ rest ∧ Parts hh hpre hpost ∧ OwnS (D.mks (xs.take j) k).1 hpre pre ∧ OwnS (xs.drop j) hpost post
theorem Marking.start {xs : List D} {k : Int} {rest flat : List Value} {r : Nat} {h2 : Mem} (h : h2 r = none) (o : OwnS xs h2 flat) : Marking xs k rest r 0 [] (flat ++ rest) h2 :=
  ⟨by omega, h, flat, Mem.nil, h2, rfl, Parts.nil_left _, ⟨rfl, rfl⟩, by simpa using o⟩
theorem Marking.len {xs : List D} {k : Int} {rest : List Value} {r : Nat} {j es : Nat} {pre tail : List Value} {hh : Mem} (m : Marking xs k rest r j pre tail hh) (hn : ∀ x ∈ xs, x.n = es) : pre.length = j * es := by
  obtain ⟨post, hpre, hpost, rfl, hp, o1, o2⟩ := m.parts
  rw [o1.len, D.mks_n, D.ns_eq (es := es) fun x hx => hn x (List.mem_of_mem_take hx), List.length_take, Nat.min_eq_left m.le]
/-- The next element: what it owns (g), and the rest (m). -/
theorem Marking.next {xs : List D} {k : Int} {rest : List Value} {r : Nat} {j : Nat} {pre tail : List Value} {hh : Mem} (M : Marking xs k rest r j pre tail hh) {x : D} (hx : xs[j]? = some x) :
    ∃ c g m c2, tail = c ++ (c2 ++ rest) ∧ Own x g c ∧ Parts hh g m ∧ m r = none ∧
      (∀ g' c', Apart g' m → g' r = none → Own (x.mk (D.mks (xs.take j) k).2).1 g' c' → Marking xs k rest r (j + 1) (pre ++ c') (c2 ++ rest) (g'.join m)) := by
  obtain ⟨post, hpre, hpost, rfl, hp, o1, o2⟩ := M.parts
  have hlt : j < xs.length := (List.getElem?_eq_some_iff.1 hx).1
  have hdrop : xs.drop j = x :: xs.drop (j + 1) := by
    rw [List.drop_eq_getElem_cons hlt]
    congr 1
    exact (List.getElem?_eq_some_iff.1 hx).2
  rw [hdrop] at o2
  obtain ⟨c, c2, g, g2, rfl, q, u1, u2⟩ := o2
  obtain ⟨m, p1, p2⟩ := hp.assoc q.symm
  have hm : m r = none := by
    cases h : m r with
    | none => rfl
    | some o => have := p2.left r o h; rw [M.out] at this; cases this
  refine ⟨c, g, m, c2, by simp, u1, p2.symm, hm, fun g' c' ha hg ho => ⟨hlt, by rw [Mem.join_get, hg]; exact hm, c2, g'.join hpre, g2, rfl, ?_, ?_, u2⟩⟩
  · have a1 : Apart g' hpre := fun b hb => by
      cases h : hpre b with
      | none => rfl
      | some o => have := ha b hb; rw [p1.left b o h] at this; cases this
    obtain ⟨m2, q1, q2⟩ := (Parts.join ha).assoc p1
    have e := q1.is_join
    subst e
    exact q2
  · rw [D.mks_take hx]
    refine OwnS.append (Parts.symm ?_) o1 (OwnS.last ho)
    refine Parts.join fun b hb => ?_
    cases h : hpre b with
    | none => rfl
    | some o => have := ha b hb; rw [p1.left b o h] at this; cases this
theorem Marking.cnt {xs : List D} {k : Int} {j : Nat} {x : D} (hx : xs[j]? = some x) : (D.mks (xs.take j) k).2 + x.cnt ≤ k + D.cnts xs := by
  have h1 := D.cnts_take xs (j + 1)
  rw [D.mks_cnt]
  rw [List.take_add_one, hx, Option.toList_some, D.cnts_append] at h1
  simp only [D.cnts] at h1
  omega
theorem Marking.last {xs : List D} {k : Int} {rest : List Value} {r : Nat} {pre tail : List Value} {hh : Mem} (M : Marking xs k rest r xs.length pre tail hh) : tail = rest ∧ OwnS (D.mks xs k).1 hh pre := by
  obtain ⟨post, hpre, hpost, rfl, hp, o1, o2⟩ := M.parts
  rw [List.drop_length] at o2
  obtain ⟨rfl, rfl⟩ := o2
  obtain rfl := hp.eq (Parts.nil_right _)
  rw [List.take_length] at o1
  exact ⟨by simp, o1⟩
theorem Tm.own {t : Tm} {h : Mem} {cs : List Value} (k : Own t.d h cs) : ∃ v, cs = [.int .i64 t.kind, .int .i64 t.num, .string t.name, v] ∧ OwnV (.sl 4 (t.args.map Tm.d)) h v := by
  cases t with
  | mk kd n s l =>
    rw [Tm.d_mk] at k
    obtain ⟨c1, c2, h1, h2, rfl, p, ⟨rfl, rfl⟩, c3, c4, h3, h4, rfl, q, ⟨rfl, rfl⟩, c5, c6, h5, h6, rfl, t, ⟨rfl, rfl⟩, c7, c8, h7, h8, rfl, u, k7, rfl, rfl⟩ := k
    obtain rfl := p.eq (Parts.nil_left _)
    obtain rfl := q.eq (Parts.nil_left _)
    obtain rfl := t.eq (Parts.nil_left _)
    obtain rfl := u.eq (Parts.nil_right _)
    have hl := k7.len
    match c7, hl with
    | [v], _ => exact ⟨v, by simp [Tm.kind, Tm.num, Tm.name], k7⟩
theorem Tm.d_eq (t : Tm) : t.d = .st [.i t.kind, .i t.num, .s t.name, .sl 4 (t.args.map Tm.d)] := by
  cases t; exact Tm.d_mk _ _ _ _
section
variable {μ : Mem}
/-! ### Bindings -/
theorem Bd.own {b : Bd} {h : Mem} {cs : List Value} (k : Own b.d h cs) : ∃ v, cs = [.int .i64 b.var, .int .i64 b.to.kind, .int .i64 b.to.num, .string b.to.name, v] ∧ OwnV (.sl 4 (b.to.args.map Tm.d)) h v := by
  obtain ⟨c1, c2, h1, h2, rfl, p, ⟨rfl, rfl⟩, c3, c4, h3, h4, rfl, q, k3, rfl, rfl⟩ := k
  obtain rfl := p.eq (Parts.nil_left _)
  obtain rfl := q.eq (Parts.nil_right _)
  obtain ⟨v, rfl, hv⟩ := Tm.own k3
  exact ⟨v, by simp, hv⟩
end
end Go.Vx

/- Contracts: copies; the reference's Instantiate. -/
namespace Go.Vx
open Go.Proofs Classical
theorem T.d_eq (x : T) : x.tm.d = .st [.i x.tm.kind, .i x.tm.num, .s x.tm.name, .sl 4 ((x.args.map T.tm).map Tm.d)] := by
  rw [Tm.d_eq, T.tm_args]
theorem T.inv {μ : Mem} {x : T} {w : Value} (hw : RepV μ x.tm.d w) : ∃ base cap, w = .agg #[.int .i64 x.tm.kind, .int .i64 x.tm.num, .string x.tm.name, .slice base x.args.length cap] ∧ Sl μ 4 base x.args.length ((x.args.map T.tm).map Tm.d) := by
  have h1 := Tm.inv (k := x.tm.kind) (n := x.tm.num) (s := x.tm.name) (l := x.tm.args) (v := w) (by cases x <;> exact hw)
  rw [T.tm_args, List.length_map] at h1
  exact h1
theorem T.args_le (x : T) : x.args.length ≤ 2 := by cases x <;> simp [T.args]
theorem l02Copy_spec : ∀ (x : T) {μ : Mem} {v : Value}, RepV μ x.tm.d v → Spec Try.prog 67 [v] μ fun v μ' => RepV μ' x.tm.d v :=
  T.ind fun x ih μ v hv => by
    obtain ⟨base, cap, rfl, hsl⟩ := T.inv hv
    have hn := T.args_le x
    refine Spec.mk Try.func67 (by kernel_rfl) ?_
    intro r1 r2 r3
    refine loop_nil (fun p : Nat × Option Nat × Nat × List Value × Mem => p.1 ≤ x.args.length ∧ μ.Le p.2.2.2.2 ∧ Rows p.2.2.2.2 4 (((x.args.take p.1).map T.tm).map Tm.d) p.2.2.2.1)
      (fun (i, b, c, ys, μ') => ⟨[(2, .loc 1 r2 0), (3, .loc 2 r3 0), (14, .val (.slice base x.args.length cap)), (15, .val (.int .i64 x.args.length)), (16, .val (.int .i64 i))],
        [(1, some (.cells r2 [.val (.int .i64 0), .val (.int .i64 0), .val (.string ⟨#[]⟩), .val (.slice none 0 0)] 80)), (2, some (.cells r3 [.val (.int .i64 x.tm.kind), .val (.int .i64 x.tm.num), .val (.string x.tm.name), .row 3 b ys.length c] 80)), (3, some (.row b c 80 4 ys))], 4, μ', Mem.nil⟩) (fun p => x.args.length - p.1)
      (0, none, 0, [], μ) ⟨by simp, Mem.Le.refl μ, .nil⟩ (fun (_, _, _, _, _) => ⟨rfl, rfl⟩) ⟨⟨⟨_, rfl, .inl rfl⟩, ⟨_, rfl, .inl rfl⟩, ⟨_, rfl, .inl rfl⟩, ⟨_, rfl, .inl rfl⟩, ⟨_, rfl, .inl rfl⟩, trivial⟩, ⟨.inl rfl, .inr (.inr ⟨_, _, _, _, rfl, rfl, .inl rfl, .inl rfl, .inl rfl, .inr ⟨3, rfl, rfl, Nat.le_refl _⟩, trivial⟩), .inr (.inl ⟨_, _, rfl, Nat.le_refl _⟩), trivial⟩, rfl, rfl⟩ ?_
    rintro ⟨i, b, c, ys, μ'⟩ ⟨hi, hle, hrows⟩
    dsimp only at hi hle hrows
    have hlen := hrows.len
    simp only [List.length_map, List.length_take] at hlen
    refine ifd (fun h => ?_) (fun h => ?_)
    · obtain ⟨t, ht⟩ := at_some (l := x.args) (i := i) (by omega)
      have ht' : (x.args.map T.tm)[i]? = some t.tm := by simp [ht]
      obtain ⟨ad, p, hel, hr⟩ := Tm.elem (hsl.mono hle) ht'
      refine elem_intro hel ?_
      intro r4
      refine call_plain (ih t (mem_at ht) hr) fun v' μ'' hle2 hR => ?_
      obtain ⟨q, rfl⟩ := Tm.invV hR
      intro r5
      refine grow_intro ?_ ?_ fun b' c' _ => ?_
      · show (ys.length + 1) * 56 ≤ _; omega
      · show ys.length + 1 ≤ 9223372036854775807; omega
      have hsucc : ((x.args.take (i + 1)).map T.tm).map Tm.d = ((x.args.take i).map T.tm).map Tm.d ++ [t.tm.d] := by
        rw [List.take_add_one, ht, Option.toList_some]; simp
      exact num64 (by omega) (by omega) ⟨(i + 1, b', c', _, μ''), ⟨by dsimp only; omega, hle.trans hle2, by rw [hsucc]; exact (hrows.mono hle2).append (Rows.one hR (Tm.d_n _))⟩, by dsimp only; omega, ⟨⟨rfl, rfl, rfl, rfl, rfl, trivial⟩, ⟨rfl, rfl, rfl, trivial⟩, rfl, rfl⟩⟩
    · obtain rfl : i = x.args.length := by omega
      rw [List.take_length] at hrows
      refine ret_frz [3] fun μ2 hle2 hno hrow => .inl ?_
      rw [T.d_eq]
      exact ⟨_, rfl, RepS.int (RepS.int (RepS.str (RepS.last (Rows.sl hrow (hrows.mono hle2) (Nat.le_trans (m := 10) (by omega) (by decide))))))⟩
end Go.Vx

/- Contracts: the program's search for a binding. -/
namespace Go.Vx
open Go.Proofs Classical
/-- Variables in order. -/
def Srt (bs : List B) : Prop := ∀ (i j : Nat) b c, i < j → bs[i]? = some b → bs[j]? = some c → b.var < c.var
section
variable {μ : Mem}
theorem B.elem {bs : List B} {base : Option Addr} {n : Nat} (h : Sl μ 5 base n ((bs.map B.bd).map Bd.d)) {i : Nat} {b : B} (hb : bs[i]? = some b) : ∃ ad, ∃ p : Option Addr × Nat, ElemAt μ base n 5 i ad (b.bd.cs p) ∧ RepV μ b.to.tm.d (.agg (b.to.tm.cs p).toArray) := by
  have hb' : (bs.map B.bd)[i]? = some b.bd := by simp [hb]
  obtain ⟨ad, p, h1, h2⟩ := Bd.elem h hb'
  exact ⟨ad, p, h1, Bd.toV h2⟩
end
end Go.Vx

/- Contracts: the program's put and Instantiate. -/
namespace Go.Vx
open Go.Proofs Classical
theorem valsOk.srt {l : List Bd} (h : valsOk l) : Srt (l.map Bd.b) := by
  intro i j b c hij hb hc
  simp only [List.getElem?_map, Option.map_eq_some_iff] at hb hc
  obtain ⟨b, hb, rfl⟩ := hb
  obtain ⟨c, hc, rfl⟩ := hc
  show b.var < c.var
  induction j generalizing c with
  | zero => omega
  | succ j ih =>
    have hj : j < l.length := by have := (List.getElem?_eq_some_iff.1 hc).1; omega
    obtain ⟨d, hd⟩ := at_some hj
    have h1 := (h.2 (j + 1) c hc).2.2 j d rfl hd
    rcases Nat.lt_or_ge i j with h2 | h2
    · have := ih h2 d hd; omega
    · obtain rfl : i = j := by omega
      rw [hb] at hd; cases hd; exact h1
section
variable {μ : Mem}
end
end Go.Vx

/- Contracts: terms compared. -/
namespace Go.Vx
open Go.Proofs Classical
def sgn (b : Bool) : Int := if b then -1 else 1
/-- The comparison of two terms' own fields, then the rest. -/
noncomputable def hdCmp (x y : Tm) (rest : Int) : Int :=
  if x.kind ≠ y.kind then sgn (decide (x.kind < y.kind)) else if x.num ≠ y.num then sgn (decide (x.num < y.num)) else if x.name ≠ y.name then sgn (Op.bytesLess x.name.data.toList y.name.data.toList) else rest
noncomputable def T.cmp : T → T → Int
  | .pair a b, .pair c d => if a.cmp c = 0 then b.cmp d else a.cmp c
  | .pair a b, .nil => hdCmp (T.pair a b).tm T.nil.tm 0
  | .pair a b, .var n => hdCmp (T.pair a b).tm (T.var n).tm 0
  | .pair a b, .sym n => hdCmp (T.pair a b).tm (T.sym n).tm 0
  | .pair a b, .num n => hdCmp (T.pair a b).tm (T.num n).tm 0
  | .nil, y => hdCmp T.nil.tm y.tm 0
  | .var n, y => hdCmp (T.var n).tm y.tm 0
  | .sym n, y => hdCmp (T.sym n).tm y.tm 0
  | .num n, y => hdCmp (T.num n).tm y.tm 0
theorem hd2 {x y : Tm} {r : Int} (h1 : x.kind = y.kind) (h : ¬ x.num = y.num) : hdCmp x y r = sgn (decide (x.num < y.num)) := by rw [hdCmp, if_neg (fun k => k h1), if_pos h]
section
variable {μ : Mem}
noncomputable def T.rest : T → T → Int
  | .pair a b, .pair c d => if a.cmp c = 0 then b.cmp d else a.cmp c
  | _, _ => 0
end
end Go.Vx

/- Contracts: bindings inserted; names by number; the reference's canonical terms. -/
namespace Go.Vx
open Go.Proofs Classical
section
variable {μ : Mem}
theorem Rep.val : ∀ {d : D} {c : List Value}, Rep μ d c → ∃ v, RepV μ d v ∧ vcells v = c
  | .st fs, c, h => ⟨.agg c.toArray, ⟨c, rfl, h⟩, by simp [vcells]⟩
  | .i n, c, h => by
    have h2 : c = [.int .i64 n] := h
    subst h2; exact ⟨_, h, rfl⟩
  | .b x, c, h => by
    have h2 : c = [.bool x] := h
    subst h2; exact ⟨_, h, rfl⟩
  | .s x, c, h => by
    have h2 : c = [.string x] := h
    subst h2; exact ⟨_, h, rfl⟩
  | .sl es xs, c, h => by
    obtain ⟨base, cap, h1, h2⟩ := h
    subst h1
    exact ⟨_, ⟨base, cap, rfl, h2⟩, rfl⟩
theorem RepS.rows {es : Nat} : ∀ {l : List D} {flat : List Value}, RepS μ l flat → (∀ x ∈ l, x.n = es) → ∃ vs, Rows μ es l vs ∧ vs.flatMap vcells = flat
  | [], flat, h, _ => by
    have h : flat = [] := h
    subst h; exact ⟨[], .nil, rfl⟩
  | d :: l, flat, h, hn => by
    obtain ⟨c1, c2, rfl, h1, h2⟩ := h
    obtain ⟨v, hv, rfl⟩ := Rep.val h1
    obtain ⟨vs, hr, rfl⟩ := RepS.rows h2 fun x hx => hn x (by simp [hx])
    exact ⟨v :: vs, .cons hv (hn d (by simp)) hr, by simp⟩
theorem Rows.take {es : Nat} : ∀ {ds : List D} {vs : List Value} (k : Nat), Rows μ es ds vs → Rows μ es (ds.take k) (vs.take k)
  | _, _, 0, _ => by simpa using Rows.nil
  | _, _, k + 1, .nil => by simpa using Rows.nil
  | _, _, k + 1, .cons h hn r => by simpa using Rows.cons h hn (r.take k)
theorem Rows.drop {es : Nat} : ∀ {ds : List D} {vs : List Value} (k : Nat), Rows μ es ds vs → Rows μ es (ds.drop k) (vs.drop k)
  | _, _, 0, h => by simpa using h
  | _, _, k + 1, .nil => by simpa using Rows.nil
  | _, _, k + 1, .cons h hn r => by simpa using r.drop k
theorem Rows.size {es : Nat} : ∀ {ds : List D} {vs : List Value}, Rows μ es ds vs → ∀ v ∈ vs, (vcells v).length = es ∧ ∀ u ∈ vcells v, u.oneCell' = true
  | _, _, .nil, v, hv => by simp at hv
  | _, _, .cons h hn r, v, hv => by
    rcases List.mem_cons.1 hv with rfl | hv
    · exact ⟨by rw [Rep.len _ _ h.cells]; exact hn, Rep.one _ _ h.cells⟩
    · exact r.size v hv
/-- A slice's elements as a row that an append may read. -/
theorem Rep.src {es n cap : Nat} {base : Option Addr} {ds : List D} (h : RepV μ (.sl es ds) (.slice base n cap)) :
    ∃ vs, Rows μ es ds vs ∧ vs.length = n ∧ n ≤ cap ∧ ∀ a b, a ≤ b → b ≤ n → SrcAt μ (if cap = a then base else base.map (·.add (a * es))) (b - a) es ((vs.drop a).take (b - a)) := by
  have h' : Rep μ (.sl es ds) [.slice base n cap] := h
  have hcap := Rep.lens h'
  obtain ⟨b0, c0, h1, h2, h3, h4⟩ := h'
  simp only [List.cons.injEq, and_true] at h1
  obtain ⟨rfl, rfl, rfl⟩ := Value.slice.inj h1
  have : ∃ vs, Rows μ es ds vs ∧ (ds = [] ∨ ∃ a0, base = some a0 ∧ CellsAt μ a0 (vs.flatMap vcells)) := by
    rcases h4 with rfl | ⟨a0, flat, g1, g2, g3⟩
    · exact ⟨[], .nil, .inl rfl⟩
    · obtain ⟨vs, hr, rfl⟩ := RepS.rows g3 h3
      exact ⟨vs, hr, .inr ⟨a0, g1, g2⟩⟩
  obtain ⟨vs, hr, hc⟩ := this
  have hlen := hr.len
  refine ⟨vs, hr, hlen.symm, hcap, fun a b hab hb => ⟨by simp; omega, fun y hy => hr.size y (List.mem_of_mem_drop (List.mem_of_mem_take hy)), ?_⟩⟩
  rcases Nat.eq_or_lt_of_le hab with e | hlt
  · exact .inl (by omega)
  · right
    rcases hc with e | ⟨a0, e, hcell⟩
    · subst e; simp at hb; omega
    · subst e
      refine ⟨a0.add (a * es), by rw [if_neg (by omega)]; rfl, fun j v hj => ?_⟩
      rw [add_add]
      refine hcell _ _ ?_
      have e1 : vs.flatMap vcells = (vs.take a).flatMap vcells ++ (((vs.drop a).take (b - a)).flatMap vcells ++ ((vs.drop a).drop (b - a)).flatMap vcells) := by
        rw [← List.flatMap_append, List.take_append_drop, ← List.flatMap_append, List.take_append_drop]
      have e2 : ((vs.take a).flatMap vcells).length = a * es := by
        rw [flat_len (es := es) (vs.take a) fun y hy => (hr.size y (List.mem_of_mem_take hy)).1]
        congr 1; simp; omega
      rw [e1, List.getElem?_append_right (by omega), e2, Nat.add_sub_cancel_left, List.getElem?_append_left (List.getElem?_eq_some_iff.1 hj).1]
      exact hj
/-! ### Insertion -/
/-! ### Names by number -/
theorem idx_at : ∀ {l : List Int} (_ : l.Nodup) {i : Nat} {n : Int}, l[i]? = some n → l.idxOf n = i
  | [], _, i, n, h => by simp at h
  | a :: l, hn, 0, n, h => by
    simp only [List.getElem?_cons_zero, Option.some.injEq] at h
    subst h; simp
  | a :: l, hn, i + 1, n, h => by
    simp only [List.getElem?_cons_succ] at h
    simp only [List.nodup_cons] at hn
    have hne : ¬ a = n := fun e => hn.1 (by subst e; exact List.mem_of_getElem? h)
    have hb : (a == n) = false := by simp [hne]
    rw [List.idxOf_cons, hb, idx_at hn.2 h]
    rfl
/-- Numbers of variables lie in a range. -/
theorem T.vars_range : ∀ {x : T}, x.good → ∀ n ∈ x.vars, 0 ≤ n ∧ n ≤ 100000
  | .var n, h, m, hm => by
    simp only [T.vars, List.mem_singleton] at hm
    subst hm; exact h
  | .pair a b, h, m, hm => by
    simp only [T.vars, List.mem_append] at hm
    exact hm.elim (T.vars_range h.1 m) (T.vars_range h.2 m)
  | .nil, _, m, hm => by simp [T.vars] at hm
  | .sym _, _, m, hm => by simp [T.vars] at hm
  | .num _, _, m, hm => by simp [T.vars] at hm
theorem nodup_range {N : Nat} : ∀ {l : List Int}, l.Nodup → (∀ n ∈ l, 0 ≤ n ∧ n < N) → l.length ≤ N := by
  induction N with
  | zero =>
    intro l _ h
    cases l with
    | nil => simp
    | cons a l => have := h a (by simp); omega
  | succ N ih =>
    intro l hn h
    have h1 := ih (l := l.erase (N : Int)) (hn.erase _) fun n hm => by
      rw [hn.mem_erase_iff] at hm
      have := h n hm.2
      have h2 : n ≠ (N : Int) := hm.1
      omega
    have h2 : l.length ≤ (l.erase (N : Int)).length + 1 := by
      rw [List.length_erase]; split <;> omega
    omega
/-! ### Canonical terms -/
end
end Go.Vx

/- Contracts: the sorted keys of a map of numbers. -/
namespace Go.Vx
open Go.Proofs Classical
open Go.Sort
theorem keys_ints {l : List (Value × Value)} (h : MapOk IntKey l) : ∃ ks : List Int, l.map Prod.fst = ints ks ∧ ks.Nodup := by
  have h1 : ∀ (l : List (Value × Value)), (∀ p ∈ l, IntKey p.1) → ∃ ks : List Int, l.map Prod.fst = ints ks := fun l => by
    induction l with
    | nil => intro _; exact ⟨[], rfl⟩
    | cons p l ih =>
      intro h
      obtain ⟨ks, hks⟩ := ih fun q hq => h q (by simp [hq])
      obtain ⟨n, hn⟩ := h p (by simp)
      exact ⟨n :: ks, by rw [List.map_cons, hks, hn]; rfl⟩
  obtain ⟨ks, hks⟩ := h1 l h.keys
  refine ⟨ks, hks, ?_⟩
  have hn := h.nodup
  rw [hks, ints] at hn
  exact List.Pairwise.of_map (S := fun a b => a ≠ b) _ (fun a b hab e => hab (by rw [e])) hn
theorem mget_keys {l : List (Value × Value)} {ks : List Int} (h : l.map Prod.fst = ints ks) (n : Int) : (mget l (.int .i64 n)).isSome ↔ n ∈ ks := by
  have e : n ∈ ks ↔ Value.int .i64 n ∈ l.map Prod.fst := by
    rw [h, ints, List.mem_map]
    exact ⟨fun k => ⟨n, k, rfl⟩, fun ⟨m, k, e⟩ => by cases e; exact k⟩
  rw [e]
  clear e h
  induction l with
  | nil => simp [mget]
  | cons p l ih =>
    obtain ⟨a, v⟩ := p
    rw [mget]
    by_cases h : a = .int .i64 n
    · rw [if_pos h]; simp [h]
    · rw [if_neg h]
      refine ih.trans ?_
      simp only [List.map_cons, List.mem_cons]
      exact ⟨.inr, fun k => k.elim (fun e => absurd e.symm h) id⟩
theorem nodup_len {N : Nat} {l : List Nat} (h : l.Nodup) (hb : ∀ j ∈ l, j < N) : l.length ≤ N := by
  have h1 : (l.map fun j : Nat => (j : Int)).Nodup := List.Pairwise.map (S := fun a b => a ≠ b) _ (fun a b hab e => hab (by omega)) h
  have := nodup_range (N := N) h1 fun n hn => by
    obtain ⟨j, hj, rfl⟩ := List.mem_map.1 hn
    have := hb j hj; omega
  rwa [List.length_map] at this
theorem ints_own : ∀ l : List Int, OwnRows 1 (l.map D.i) (ints l) Mem.nil
  | [] => OwnRows.nil 1
  | n :: l => ⟨by
      have := (ints_own l).own
      exact OwnS.int this, by
      intro x hx
      obtain ⟨m, _, rfl⟩ := List.mem_map.1 hx
      rfl, by simp [ints]⟩
theorem srt_lt (D : List Int) (h : D.Nodup) : (D.mergeSort fun x y => decide (x ≤ y)).Pairwise (· < ·) := by
  have h1 := List.pairwise_mergeSort (le := fun x y : Int => decide (x ≤ y)) (fun a b c h1 h2 => by simp at *; omega) (fun a b => by simp; omega) D
  have h2 : (D.mergeSort fun x y => decide (x ≤ y)).Nodup := ((List.mergeSort_perm D _).nodup_iff).2 h
  rw [List.nodup_iff_pairwise_ne] at h2
  exact List.Pairwise.imp (fun ⟨a, b⟩ => by simp at a; omega) (h1.and h2)
theorem getD_at {ks : List Int} {j : Nat} (h : j < ks.length) : ks[j]? = some (ks.getD j 0) := by
  rw [List.getD_eq_getElem?_getD, List.getElem?_eq_getElem h]; rfl
theorem picked {ks : List Int} (hnd : ks.Nodup) {seen : List Nat} (hsn : seen.Nodup) (hsl : ∀ j ∈ seen, j < ks.length) : (seen.map fun j => ks.getD j 0).Nodup := by
  rw [List.nodup_iff_pairwise_ne, List.pairwise_map]
  rw [List.nodup_iff_pairwise_ne] at hsn
  refine hsn.imp_of_mem fun {a b} ha hb hab e => hab ?_
  have h1 := idx_at hnd (getD_at (hsl a ha))
  have h2 := idx_at hnd (getD_at (hsl b hb))
  rw [e] at h1
  omega
theorem picked_mem {ks : List Int} {seen : List Nat} (hsl : ∀ j ∈ seen, j < ks.length) (hall : ∀ j, j < ks.length → j ∈ seen) (n : Int) : n ∈ (seen.map fun j => ks.getD j 0) ↔ n ∈ ks := by
  rw [List.mem_map]
  constructor
  · rintro ⟨j, hj, rfl⟩
    exact List.mem_of_getElem? (getD_at (hsl j hj))
  · intro h
    obtain ⟨j, hj⟩ := List.mem_iff_getElem?.1 h
    have hjl := (List.getElem?_eq_some_iff.1 hj).1
    refine ⟨j, hall j hjl, ?_⟩
    rw [getD_at hjl] at hj
    exact Option.some.inj hj
section
variable {μ h : Mem}
theorem sortedInts_spec {m : Nat} {l : List (Value × Value)} (hm : h m = some (mapO l)) (hk : MapOk IntKey l) (hn : l.length ≤ 1000000) :
    SpecH Try.prog 73 [.map (some m)] μ h fun v μ' h' => h' = h ∧ ∃ xs : List Int, (∀ n, n ∈ xs ↔ (mget l (.int .i64 n)).isSome) ∧ xs.Pairwise (· < ·) ∧ Fresh μ μ' (.sl 1 (xs.map D.i)) v := by
  obtain ⟨ks, hks, hnd⟩ := keys_ints hk
  have hkl : ks.length = l.length := by
    have := congrArg List.length hks
    simpa [ints] using this.symm
  refine SpecH.mk [] Try.func73 (by kernel_rfl) ?_
  intro r5
  refine mlen_intro l hm ?_
  intro ri hmi hoi
  have hne : m ≠ ri := ne_of_none hm hoi
  refine loop_intro (fun p : List Nat × Option Nat × Nat × List Value => p.2.1 ≠ none ∧ p.1.Nodup ∧ (∀ j ∈ p.1, j < l.length) ∧ p.2.2.2 = ints (p.1.map fun j => ks.getD j 0))
    (fun (seen, b, c, ys) => ⟨[(3, .row 0 b ys.length c), (7, .val (.pointer (some ⟨ri, 0, none⟩)))], [(0, some (.row b c 3 1 ys))], 1, μ, h.set ri (iterO m l.length seen l.length)⟩) (fun p => l.length - p.1.length)
    ([], some r5, 0, []) ⟨by simp, by simp, by simp, rfl⟩ (fun (_, _, _, _) => ⟨rfl, rfl⟩) ⟨⟨rfl, rfl, trivial⟩, ⟨rfl, trivial⟩, rfl, rfl⟩ ?_
  rintro ⟨seen, b, c, ys⟩ ⟨hb, hsn, hsl, hys⟩
  dsimp only at hb hsn hsl hys
  have hslen := nodup_len hsn hsl
  refine next_intro m seen l.length l (Mem.set_at _ _ _) ((Mem.set_ne hne).trans hm) (Nat.le_refl _) (fun hall => ?_) (fun j k v hj hns => ?_)
  rotate_left
  · have hjl := (List.getElem?_eq_some_iff.1 hj).1
    have hkj : k = .int .i64 (ks.getD j 0) := by
      have h1 : (l.map Prod.fst)[j]? = some k := by simp [hj]
      rw [hks, ints, List.getElem?_map] at h1
      have h2 : j < ks.length := by omega
      rw [List.getElem?_eq_getElem h2] at h1
      simp only [Option.map_some, Option.some.injEq] at h1
      rw [← h1, List.getD_eq_getElem?_getD, List.getElem?_eq_getElem h2]; rfl
    subst hkj
    rw [Mem.set_set]
    refine if_intro (fun _ => ?_) (fun h => nomatch h)
    refine ent_intro m l.length seen j l _ v (Mem.set_at _ _ _) ((Mem.set_ne hne).trans hm) hj ?_
    intro r6
    have hyl : ys.length = seen.length := by rw [hys]; simp [ints]
    refine grow_intro ?_ ?_ fun b' c' hb' => ?_
    · show (ys.length + 1) * 8 ≤ _; omega
    · exact Nat.le_trans (m := 100000000) (show ys.length + 1 ≤ _ by omega) (by decide)
    have hsl2 : ∀ i ∈ seen ++ [j], i < l.length := fun i hi => by
      rcases List.mem_append.1 hi with hi | hi
      · exact hsl i hi
      · rw [List.mem_singleton] at hi; subst hi; exact hjl
    have hsn2 : (seen ++ [j]).Nodup := by
      rw [List.nodup_append]
      refine ⟨hsn, by simp, fun a ha b hb e => ?_⟩
      rw [List.mem_singleton] at hb
      subst hb; subst e; exact hns ha
    have hs3 := nodup_len hsn2 hsl2
    rw [List.length_append, List.length_singleton] at hs3
    exact ⟨(seen ++ [j], b', c', ys ++ [.int .i64 (ks.getD j 0)]), ⟨by
      dsimp only
      intro e
      have := hb' e
      simp at this, hsn2, hsl2, by dsimp only; rw [List.map_append, ints, List.map_append, hys]; rfl⟩, by dsimp only; rw [List.length_append, List.length_singleton]; omega, ⟨⟨rfl, rfl, trivial⟩, ⟨rfl, trivial⟩, rfl, rfl⟩⟩
  · refine if_intro (fun h => nomatch h) (fun _ => ?_)
    have hp := picked hnd hsn (by rw [hkl]; exact hsl)
    have hpm := picked_mem (by rw [hkl]; exact hsl) (by rw [hkl]; exact hall) (ks := ks) (seen := seen)
    have hDs : (seen.map (fun j => ks.getD j 0)).length = seen.length := by simp
    generalize seen.map (fun j => ks.getD j 0) = D at *
    subst hys
    obtain ⟨b0, rfl⟩ := Option.ne_none_iff_exists'.1 hb
    have hDl : (ints D).length = D.length := by simp [ints]
    refine call_gen [] [0] (fun h => nomatch h) ?_
    intro h' hmem hgiven
    obtain ⟨hb0, hlen, hcap, hone, cs, rfl, hcs, htake⟩ := hgiven
    replace hb0 : (Mem.set h ri (iterO m l.length seen l.length)) b0 = none := hb0
    replace hmem : μ b0 = none := hmem b0 rfl
    obtain ⟨rest, rfl⟩ : ∃ rest, cs = ints D ++ rest := by
      refine ⟨cs.drop ((ints D).length * 1), ?_⟩
      rw [ints_flat] at htake
      conv => lhs; rw [← List.take_append_drop ((ints D).length * 1) cs, htake]
    have hD6 : D.length ≤ 1000000000000 := by omega
    refine own_go (Ints_spec (h0 := h.set ri (iterO m l.length seen l.length)) (r := b0) (ty := 3) (rest := rest) (d := D.toArray) hb0 (by simp [ints]) (by omega)) fun v μ' h'' hle hap hR => ?_
    obtain ⟨rfl, rfl⟩ := hR
    have f1 : (D.toArray.toList.mergeSort fun x y => decide (x ≤ y)).Pairwise (· < ·) := srt_lt D hp
    have f2 : ∀ n, n ∈ (D.toArray.toList.mergeSort fun x y => decide (x ≤ y)) ↔ n ∈ D := fun n => (List.mergeSort_perm D _).mem_iff
    have f3 : (D.toArray.toList.mergeSort fun x y => decide (x ≤ y)).length = D.length := (List.mergeSort_perm D _).length_eq
    generalize (D.toArray.toList.mergeSort fun x y => decide (x ≤ y)) = S at *
    have hbr : b0 ≠ ri := fun e => by subst e; rw [Mem.set_at] at hb0; cases hb0
    have hhb : h b0 = none := by rwa [Mem.set_ne hbr] at hb0
    have hb1 : μ' b0 = none := by
      cases e : μ' b0 with
      | none => rfl
      | some o => have := hap b0 (by simp [e]); rw [RowI, Mem.set_at] at this; cases this
    have hSl : (ints S).length = S.length := by simp [ints]
    refine ret_own ((Mem.nil.set ri (iterO m l.length seen l.length)).set b0 (.cells (List.toArray ([] ++ (S.toArray.toList.map (Value.int .i64) ++ rest))) 3 (0, 0))) h ?_ ⟨rfl, S, fun n => (f2 n).trans ((hpm n).trans (mget_keys hks n).symm), f1, ?_⟩
    · show Parts (RowI (h.set ri (iterO m l.length seen l.length)) b0 3 rest S.toArray) _ h
      replace hoi : h ri = none := hoi
      intro x
      by_cases h1 : x = b0
      · subst h1; exact .inl ⟨by rw [RowI, Mem.set_at, Mem.set_at], hhb⟩
      · by_cases h2 : x = ri
        · subst h2; exact .inl ⟨by rw [RowI, Mem.set_ne h1, Mem.set_ne h1, Mem.set_at, Mem.set_at], hoi⟩
        · exact .inr ⟨by rw [RowI, Mem.set_ne h1, Mem.set_ne h2], by rw [Mem.set_ne h1, Mem.set_ne h2]; rfl⟩
    · have F := Fresh.ofRow (μ := μ) (μ1 := μ) (μ' := μ'.join ((Mem.nil.set ri (iterO m l.length seen l.length)).set b0 (.cells (List.toArray ([] ++ (S.toArray.toList.map (Value.int .i64) ++ rest))) 3 (0, 0)))) (b := some b0) (cap := c) (ints_own S) (fun _ _ h => nomatch h) (fun _ h => absurd rfl h) (Mem.Le.refl _) (hle.trans (Mem.le_join _ _)) (fun r e => by cases e; exact hmem)
        ⟨by omega, fun x hx => by
          obtain ⟨n, _, rfl⟩ := List.mem_map.1 hx
          exact ⟨rfl, by simp [vcells, Value.oneCell']⟩, _, _, by rw [Mem.join_get, hb1, Mem.set_at], by
            simp only [List.length_append, ints, List.length_map] at hcs
            simp [f3]; omega, by rw [ints_flat]; simp [ints]⟩ (Nat.le_trans (m := 1000000) (by omega) (by decide))
      have e : (ints D).length = (ints S).length := by omega
      show Fresh μ _ (.sl 1 (S.map Go.Vx.D.i)) (.slice _ (ints D).length c)
      rw [e]; exact F
end
end Go.Vx

/- What the texts on types of data share. -/
namespace Go.Vx
open Go.Proofs Classical
abbrev Tm.P := Option Addr × Nat
abbrev Bd.P := Option Addr × Nat
section
variable {μ : Mem}
theorem Tm.invR {t : Tm} {cs : List Value} (h : Rep μ t.d cs) : ∃ p : Tm.P, cs = t.cs p ∧ RepV μ t.d (.agg (t.cs p).toArray) := by
  obtain ⟨p, rfl⟩ := Tm.invC h
  exact ⟨p, rfl, Tm.rep h⟩
theorem Bd.invR {b : Bd} {cs : List Value} (h : Rep μ b.d cs) : ∃ p : Bd.P, cs = b.cs p ∧ RepV μ b.d (.agg (b.cs p).toArray) := by
  obtain ⟨p, rfl, _⟩ := Bd.invS h
  exact ⟨p, rfl, _, rfl, h⟩
theorem Bd.d_eq (b : Bd) : b.d = .st [.i b.var, b.to.d] := rfl
theorem one_of {α : Type} {l : List α} (h : l.length = 1) : ∃ v, l = [v] := List.length_eq_one_iff.1 h
/-- Fresh memory of the parts of a struct. -/
def FreshS (μ μ' : Mem) (ds : List D) (cs : List Value) : Prop := ∃ g : Mem, OwnS ds g cs ∧ g.Le μ' ∧ ∀ b, g b ≠ none → μ b = none
variable {μ1 μ' : Mem}
theorem FreshS.nil : FreshS μ μ' [] [] := ⟨Mem.nil, ⟨rfl, rfl⟩, (fun _ _ h => nomatch h), fun _ h => absurd rfl h⟩
theorem FreshS.int {n : Int} {ds : List D} {cs : List Value} (k : FreshS μ μ' ds cs) : FreshS μ μ' (.i n :: ds) (.int .i64 n :: cs) := by
  obtain ⟨g, a, b, c⟩ := k
  exact ⟨g, OwnS.int a, b, c⟩
theorem FreshS.bool {n : Bool} {ds : List D} {cs : List Value} (k : FreshS μ μ' ds cs) : FreshS μ μ' (.b n :: ds) (.bool n :: cs) := by
  obtain ⟨g, a, b, c⟩ := k
  exact ⟨g, OwnS.bool a, b, c⟩
theorem FreshS.str {n : ByteArray} {ds : List D} {cs : List Value} (k : FreshS μ μ' ds cs) : FreshS μ μ' (.s n :: ds) (.string n :: cs) := by
  obtain ⟨g, a, b, c⟩ := k
  exact ⟨g, OwnS.str a, b, c⟩
theorem FreshS.cons {d : D} {v : Value} {ds : List D} {cs : List Value} (k1 : Fresh μ μ1 d v) (h1 : μ.Le μ1) (h2 : μ1.Le μ') (k : FreshS μ1 μ' ds cs) : FreshS μ μ' (d :: ds) (vcells v ++ cs) := by
  obtain ⟨g1, a1, b1, c1⟩ := k1
  obtain ⟨g, a, b, c⟩ := k
  refine ⟨g1.join g, OwnS.cons (Parts.join (fresh_apart b1 c)) a1.cells a, join_le (b1.trans h2) b, fun x hx => ?_⟩
  rcases join_ne hx with h | h
  · exact c1 x h
  · have h3 := c x h
    cases h0 : μ x with
    | none => rfl
    | some o => rw [h1 x o h0] at h3; cases h3
theorem FreshS.mono {μ0 : Mem} {ds : List D} {cs : List Value} (k : FreshS μ1 μ' ds cs) (h : μ0.Le μ1) : FreshS μ0 μ' ds cs := by
  obtain ⟨g, a, b, c⟩ := k
  refine ⟨g, a, b, fun x hx => ?_⟩
  have h3 := c x hx
  cases h0 : μ0 x with
  | none => rfl
  | some o => rw [h x o h0] at h3; cases h3
theorem FreshS.st {ds : List D} {cs : List Value} (k : FreshS μ μ' ds cs) : Fresh μ μ' (.st ds) (.agg cs.toArray) := by
  obtain ⟨g, a, b, c⟩ := k
  exact ⟨g, ⟨cs, rfl, a⟩, b, c⟩
end
end Go.Vx

/- Contracts: the laws' own functions on values of the type Goal: sizes, copies, equality, marks; what an argument reads. (By gen_types.py.) -/
namespace Go.Vx
open Go.Proofs Classical
inductive Gl where
  | mk (kind : Int) (name : ByteArray) (terms : List Tm) (goals : List Gl)
def Gl.kind : Gl → Int | .mk a _ _ _ => a
def Gl.name : Gl → ByteArray | .mk _ a _ _ => a
def Gl.terms : Gl → List Tm | .mk _ _ a _ => a
def Gl.goals : Gl → List Gl | .mk _ _ _ a => a
theorem Gl.ind {q : Gl → Prop} (h : ∀ x : Gl, (∀ y ∈ x.goals, q y) → q x) : ∀ x, q x
  | .mk a0 a1 a2 a3 => h _ fun y hy => Gl.ind h y
termination_by x => x
decreasing_by all_goals (first | exact Nat.lt_of_lt_of_le (List.sizeOf_lt_of_mem hy) (by simp only [Gl.goals, Gl.mk.sizeOf_spec]; omega) | decreasing_tactic)
mutual
def Gl.d : Gl → D
  | .mk a0 a1 a2 a3 => .st [.i a0, .s a1, .sl 4 (a2.map Tm.d), .sl 4 (Gl.ds a3)]
def Gl.ds : List Gl → List D
  | [] => []
  | t :: r => t.d :: Gl.ds r
end
theorem Gl.ds_map : ∀ l : List Gl, Gl.ds l = l.map Gl.d
  | [] => rfl
  | t :: r => by simp [Gl.ds, Gl.ds_map r]
theorem Gl.d_eq (x : Gl) : x.d = .st [.i x.kind, .s x.name, .sl 4 (x.terms.map Tm.d), .sl 4 (x.goals.map Gl.d)] := by
  cases x
  rw [Gl.d, Gl.ds_map]
  rfl
theorem Gl.d_n (x : Gl) : x.d.n = 4 := by
  rw [Gl.d_eq]
  simp only [D.n, D.ns]
abbrev Gl.P := (Option Addr × Nat) × (Option Addr × Nat)
/-- The cells of a value. -/
def Gl.cs (x : Gl) (p : Gl.P) : List Value := [.int .i64 x.kind, .string x.name, .slice p.1.1 x.terms.length p.1.2, .slice p.2.1 x.goals.length p.2.2]
section
variable {μ : Mem}
def Gl.At (μ : Mem) (x : Gl) (p : Gl.P) : Prop := Sl μ 4 p.1.1 x.terms.length (x.terms.map Tm.d) ∧ Sl μ 4 p.2.1 x.goals.length (x.goals.map Gl.d)
theorem Gl.invA {x : Gl} {cs : List Value} (h : Rep μ x.d cs) : ∃ p : Gl.P, cs = x.cs p ∧ Gl.At μ x p := by
  rw [Gl.d_eq] at h
  obtain ⟨a0, t0, rfl, h0, h⟩ := h
  have h0 : a0 = [.int .i64 x.kind] := h0
  subst h0
  obtain ⟨a1, t1, rfl, h1, h⟩ := h
  have h1 : a1 = [.string x.name] := h1
  subst h1
  obtain ⟨a2, t2, rfl, h2, h⟩ := h
  obtain ⟨v2, rfl⟩ := one_of (Rep.len _ _ h2)
  obtain ⟨b2, c2, rfl, s2⟩ := Rep.sl h2
  rw [List.length_map] at s2
  obtain ⟨a3, t3, rfl, h3, h⟩ := h
  obtain ⟨v3, rfl⟩ := one_of (Rep.len _ _ h3)
  obtain ⟨b3, c3, rfl, s3⟩ := Rep.sl h3
  rw [List.length_map] at s3
  obtain rfl : t3 = [] := h
  exact ⟨((b2, c2), (b3, c3)), by simp [Gl.cs], ⟨s2, s3⟩⟩
theorem Gl.rep {x : Gl} {cs : List Value} (h : Rep μ x.d cs) : RepV μ x.d (.agg cs.toArray) := by
  rw [Gl.d_eq] at h ⊢; exact ⟨cs, rfl, h⟩
theorem Gl.invR {x : Gl} {cs : List Value} (h : Rep μ x.d cs) : ∃ p : Gl.P, cs = x.cs p ∧ RepV μ x.d (.agg (x.cs p).toArray) := by
  obtain ⟨p, e, _⟩ := Gl.invA h
  subst e
  exact ⟨p, rfl, Gl.rep h⟩
theorem Gl.inv {x : Gl} {v : Value} (h : RepV μ x.d v) : ∃ p : Gl.P, v = .agg #[.int .i64 x.kind, .string x.name, .slice p.1.1 x.terms.length p.1.2, .slice p.2.1 x.goals.length p.2.2] ∧ Gl.At μ x p := by
  have h2 : ∃ cs, v = .agg (List.toArray cs) ∧ Rep μ x.d cs := by rw [Gl.d_eq] at h ⊢; exact h
  obtain ⟨cs, rfl, h3⟩ := h2
  obtain ⟨p, rfl, hA⟩ := Gl.invA h3
  exact ⟨p, rfl, hA⟩
theorem Gl.invV {x : Gl} {v : Value} (h : RepV μ x.d v) : ∃ p : Gl.P, v = .agg #[.int .i64 x.kind, .string x.name, .slice p.1.1 x.terms.length p.1.2, .slice p.2.1 x.goals.length p.2.2] := by
  obtain ⟨p, h, _⟩ := Gl.inv h
  exact ⟨p, h⟩
theorem Gl.elemA {l : List Gl} {base : Option Addr} {n : Nat} (h : Sl μ 4 base n (l.map Gl.d)) {i : Nat} {x : Gl} (hx : l[i]? = some x) : ∃ ad, ∃ p : Gl.P, ElemAt μ base n 4 i ad (x.cs p) ∧ RepV μ x.d (.agg (x.cs p).toArray) ∧ Gl.At μ x p := by
  obtain ⟨ad, cs, h1, h2⟩ := h.get i x.d (by simp [hx])
  obtain ⟨p, rfl, hA⟩ := Gl.invA h2
  exact ⟨ad, p, h1, Gl.rep h2, hA⟩
theorem Gl.elem {l : List Gl} {base : Option Addr} {n : Nat} (h : Sl μ 4 base n (l.map Gl.d)) {i : Nat} {x : Gl} (hx : l[i]? = some x) : ∃ ad, ∃ p : Gl.P, ElemAt μ base n 4 i ad (x.cs p) ∧ RepV μ x.d (.agg (x.cs p).toArray) := by
  obtain ⟨ad, p, h1, h2, _⟩ := Gl.elemA h hx
  exact ⟨ad, p, h1, h2⟩
theorem Gl.sz_eq (x : Gl) : x.d.sz = x.name.size + (x.terms.length + D.szs (x.terms.map Tm.d)) + (x.goals.length + D.szs (x.goals.map Gl.d)) := by
  rw [Gl.d_eq]
  simp [D.sz, D.szs]
  omega
theorem szGoalS_of {l : List Gl} (he : ∀ t ∈ l, ∀ {v : Value} {left : Int}, RepV μ t.d v → 0 ≤ left → left ≤ 1048576 → t.d.wd → Gives Try.prog 29 [v, .int .i64 left] μ (.int .i64 (szR left t.d.sz)))
    {base : Option Addr} {cap : Nat} {left : Int} (hsl : Sl μ 4 base l.length (l.map Gl.d)) (hl : 0 ≤ left) (hl2 : left ≤ 1048576) (hw : D.wds (l.map Gl.d)) :
    Gives Try.prog 44 [.slice base l.length cap, .int .i64 left] μ (.int .i64 (szR left (l.length + D.szs (l.map Gl.d)))) := by
  have hn := maxLen_le hsl.max
  refine Spec.mk Try.func44 (by kernel_rfl) ?_
  refine num64 (by omega) (by omega) (ifd (fun h => ret_gives ?_ rfl) (fun h => ?_))
  · rw [szR_neg (by omega)]
  refine loop_intro (fun i : Nat => i ≤ l.length ∧ (D.szs ((l.map Gl.d).take i) : Int) ≤ left - l.length) (fun i => ⟨[(0, .val (.slice base l.length cap)), (1, .val (.int .i64 (left - l.length - D.szs ((l.map Gl.d).take i)))), (5, .val (.int .i64 i))], [], 0, μ, Mem.nil⟩) (fun i => l.length - i)
    0 ⟨by omega, by simp [D.szs]; omega⟩ (fun i => ⟨rfl, rfl⟩) ⟨⟨rfl, by show some (SV.val (.int .i64 _)) = some (SV.val (.int .i64 _)); congr 3; simp [D.szs], rfl, trivial⟩, trivial, rfl, rfl⟩ ?_
  rintro i ⟨hi, hz⟩
  refine ifd (fun h => ?_) (fun h => ?_)
  · obtain ⟨t, ht⟩ := at_some (l := l) (i := i) (by omega)
    have hx := at_map (f := Gl.d) ht
    have hs := D.szs_take hx
    have hs' := D.szs_le (l.map Gl.d) (i + 1)
    obtain ⟨ad, p, hel, hr⟩ := Gl.elem hsl ht
    refine elem_intro hel (call_gives (he t (mem_at ht) hr (by omega) (by omega) (D.wds_mem hw _ (mem_at hx))) ?_)
    refine ifd (fun h => ret_gives ?_ rfl) (fun h => ?_)
    · have := szR_lt h
      rw [szR_neg (by omega)]
    · have := szR_ge h
      refine num64 (by omega) (by omega) ⟨i + 1, ⟨by omega, by omega⟩, by omega, ⟨⟨rfl, ?_, rfl, trivial⟩, trivial, rfl, rfl⟩⟩
      rw [szR_pos this, hs]
      show some (SV.val (.int .i64 _)) = some (SV.val (.int .i64 _))
      congr 3; omega
  · obtain rfl : i = l.length := by omega
    rw [List.take_of_length_le (by simp)] at hz ⊢
    refine ret_gives ?_ rfl
    rw [szR_pos (by omega)]; congr 1; omega
theorem szGoal_spec : ∀ (x : Gl) {v : Value} {left : Int}, RepV μ x.d v → 0 ≤ left → left ≤ 1048576 → x.d.wd → Gives Try.prog 29 [v, .int .i64 left] μ (.int .i64 (szR left x.d.sz)) :=
  Gl.ind fun x ih v left hv hl hl2 hw => by
    obtain ⟨p, rfl, hA⟩ := Gl.inv hv
    have hsz := Gl.sz_eq x
    rw [Gl.d_eq] at hw
    obtain ⟨A0, A1⟩ := hA
    have m1 := maxLen_le hw.2.1
    refine Spec.mk Try.func29 (by kernel_rfl) ?_
    intro r
    refine num64 (by omega) (by omega) (ifd (fun h => ret_gives (by rw [szR_neg (by omega)]) rfl) (fun h => ?_))
    refine call_gives (szTermS_spec A0 (by omega) (by omega) hw.2.2.1) ?_
    refine ifd (fun h => ret_gives (by have := szR_lt h; rw [szR_neg (by omega)]) rfl) (fun h => ?_)
    have q2 := szR_ge h
    rw [szR_pos q2] at h ⊢
    refine call_gives (szGoalS_of (l := x.goals) (fun t ht _ _ => ih t ht) A1 (by omega) (by omega) hw.2.2.2.1) ?_
    refine ifd (fun h => ret_gives (by have := szR_lt h; rw [szR_neg (by omega)]) rfl) (fun h => ?_)
    have q3 := szR_ge h
    rw [szR_pos q3] at h ⊢
    refine ret_gives ?_ rfl
    rw [szR_pos (by omega)]
    first | rfl | (congr 1; omega)
theorem toGoalS_of {l : List Gl} (he : ∀ t ∈ l, ∀ {μ : Mem} {v : Value}, RepV μ t.d v → t.d.sz ≤ 1048576 → Spec Try.prog 35 [v] μ fun v μ' => Fresh μ μ' t.d v)
    {base : Option Addr} {cap : Nat} (hsl : Sl μ 4 base l.length (l.map Gl.d)) (hb : l.length + D.szs (l.map Gl.d) ≤ 1048576) :
    Spec Try.prog 52 [.slice base l.length cap] μ fun v μ' => Fresh μ μ' (.sl 4 (l.map Gl.d)) v := by
  refine Spec.mk Try.func52 (by kernel_rfl) ?_
  refine make_intro l.length rfl rfl (by simp only; omega) (Nat.le_trans (m := 1048576) (by omega) (by decide)) ?_
  intro r
  refine loop_intro (fun p : Nat × List Value × Mem => μ.Le p.2.2 ∧ ∃ g, Filled 4 (.agg #[.int .i64 0, .string ⟨#[]⟩, .slice none 0 0, .slice none 0 0]) μ p.2.2 (l.map Gl.d) p.1 p.2.1 g)
    (fun (i, xs, μ') => ⟨[(0, .val (.slice base l.length cap)), (3, .row 0 (some r) l.length l.length), (4, .val (.int .i64 i))], [(0, some (.row (some r) l.length 41 4 xs))], 1, μ', Mem.nil⟩) (fun p => l.length - p.1)
    (0, List.replicate l.length (.agg #[.int .i64 0, .string ⟨#[]⟩, .slice none 0 0, .slice none 0 0]), μ) ⟨Mem.Le.refl μ, _, Filled.start (by simp)⟩ (fun (_, _, _) => ⟨rfl, rfl⟩) ⟨⟨rfl, rfl, rfl, trivial⟩, ⟨rfl, trivial⟩, rfl, rfl⟩ ?_
  rintro ⟨i, xs, μ'⟩ ⟨hle, g, hf⟩
  dsimp only at hle hf
  have hi := hf.le
  have hlen := hf.len
  rw [List.length_map] at hi hlen
  refine ifd (fun h => ?_) (fun h => ?_)
  · obtain ⟨t, ht⟩ := at_some (l := l) (i := i) (by omega)
    have hx := at_map (f := Gl.d) ht
    have hs := D.szs_mem hx
    obtain ⟨ad, p, hel, hr⟩ := Gl.elem (hsl.mono hle) ht
    refine elem_intro hel (call_plain (he t (mem_at ht) hr (by omega)) fun v μ'' hle2 hfr => ?_)
    obtain ⟨g', hf'⟩ := hf.step hx (Gl.d_n t) hfr hle2
    obtain ⟨p2, rfl⟩ := Gl.invV hfr.rep
    refine rel_intro i rfl (by omega) ?_
    refine get_intro _ (hf.rest i (by omega) (by simpa using h)) ?_
    refine num64 (by omega) (by omega) ⟨(i + 1, _, μ''), ⟨hle.trans hle2, g', hf'⟩, by dsimp only; omega, ⟨⟨rfl, rfl, rfl, trivial⟩, ⟨rfl, trivial⟩, rfl, rfl⟩⟩
  · obtain rfl : i = l.length := by omega
    refine ret_frz [0] fun μ2 hle2 hno hrow => .inl ?_
    have := Fresh.ofRow (hf.all (by simp)) hf.sub hf.new hle hle2 hno hrow (Nat.le_trans (m := 1048576) (by omega) (by decide))
    rw [hlen] at this
    exact this
set_option maxRecDepth 4000 in
theorem toGoal_spec : ∀ (x : Gl) {μ : Mem} {v : Value}, RepV μ x.d v → x.d.sz ≤ 1048576 → Spec Try.prog 35 [v] μ fun v μ' => Fresh μ μ' x.d v :=
  Gl.ind fun x ih μ v hv hb => by
    obtain ⟨p, rfl, hA⟩ := Gl.inv hv
    have hsz := Gl.sz_eq x
    obtain ⟨A0, A1⟩ := hA
    refine Spec.mk Try.func35 (by kernel_rfl) ?_
    intro r1 r2 r3
    refine call_plain (toTermS_spec A0 (by omega)) fun u0 μ0 hle0 hf0 => ?_
    replace A1 := A1.mono hle0
    obtain ⟨bb0, cc0, rfl, _⟩ := Rep.sl hf0.rep
    refine call_plain (toGoalS_of (l := x.goals) (fun t ht _ _ => ih t ht) A1 (by omega)) fun u1 μ1 hle1 hf1 => ?_
    obtain ⟨bb1, cc1, rfl, _⟩ := Rep.sl hf1.rep
    rw [Gl.d_eq]
    exact ret_plain (FreshS.st (FreshS.int (FreshS.str (FreshS.cons hf0 hle0 (hle1) (FreshS.cons hf1 hle1 (Mem.Le.refl _) (FreshS.nil))))))
theorem eqGoalS_of {l : List Gl} (he : ∀ t ∈ l, ∀ {v v' : Value}, RepV μ t.d v → RepV μ t.d v' → Gives Try.prog 42 [v, v'] μ (.bool true))
    {base base' : Option Addr} {cap cap' : Nat} (hl : Sl μ 4 base l.length (l.map Gl.d)) (hl' : Sl μ 4 base' l.length (l.map Gl.d)) :
    Gives Try.prog 61 [.slice base l.length cap, .slice base' l.length cap'] μ (.bool true) := by
  have hn := maxLen_le hl.max
  refine Spec.mk Try.func61 (by kernel_rfl) ?_
  refine ifnd (fun h => absurd rfl h) (fun _ => ?_)
  refine loop_intro (fun i : Nat => i ≤ l.length) (fun i => ⟨[(0, .val (.slice base l.length cap)), (1, .val (.slice base' l.length cap')), (5, .val (.int .i64 i))], [], 0, μ, Mem.nil⟩) (fun i => l.length - i)
    0 (by omega) (fun i => ⟨rfl, rfl⟩) ⟨⟨rfl, rfl, rfl, trivial⟩, trivial, rfl, rfl⟩ ?_
  intro i hi
  refine ifd (fun h => ?_) (fun h => ?_)
  · obtain ⟨t, ht⟩ := at_some (l := l) (i := i) (by omega)
    obtain ⟨ad, p, hel, hr⟩ := Gl.elem hl ht
    obtain ⟨ad', p', hel', hr'⟩ := Gl.elem hl' ht
    refine elem_intro hel (elem_intro hel' (call_gives (he t (mem_at ht) hr hr') ?_))
    refine if_intro (fun h => nomatch h) (fun _ => ?_)
    exact num64 (by omega) (by omega) ⟨i + 1, by omega, by omega, ⟨⟨rfl, rfl, rfl, trivial⟩, trivial, rfl, rfl⟩⟩
  · exact ret_gives rfl rfl
theorem eqGoal_spec : ∀ (x : Gl) {v v' : Value}, RepV μ x.d v → RepV μ x.d v' → Gives Try.prog 42 [v, v'] μ (.bool true) :=
  Gl.ind fun x ih v v' hv hv' => by
    obtain ⟨p, rfl, hA⟩ := Gl.inv hv
    obtain ⟨p', rfl, hB⟩ := Gl.inv hv'
    obtain ⟨A0, A1⟩ := hA
    obtain ⟨B0, B1⟩ := hB
    refine Spec.mk Try.func42 (by kernel_rfl) ?_
    intro r1 r2
    refine ifnd (fun h => absurd rfl h) (fun _ => ?_)
    refine ifnd (fun h => absurd rfl h) (fun _ => ?_)
    refine call_gives (eqTermS_spec A0 B0) ?_
    refine if_intro (fun h => nomatch h) (fun _ => ?_)
    refine call_gives (eqGoalS_of (l := x.goals) (fun t ht _ _ => ih t ht) A1 B1) ?_
    refine if_intro (fun h => nomatch h) (fun _ => ?_)
    exact ret_gives rfl rfl
theorem read_Goal : Reads Try.prog 55 fun d => ∃ x : Gl, d = x.d ∧ x.d.wd := fun n => by
  induction n using Nat.strongRecOn with
  | ind n ih =>
    match n, ih with
    | 0, _ => exact ReadsTo.zero _
    | n + 1, ih =>
      have hs : ReadsTo Try.prog n 53 fun d => ∃ xs, d = .sl 4 xs ∧ ∀ x ∈ xs, ∃ t : Gl, x = t.d ∧ t.d.wd := by
        match n, ih with
        | 0, _ => exact ReadsTo.zero _
        | n + 1, ih => exact reads_slice ti53.kind (cellsOf_tt ti55) (ih n (by omega)) (fun d h => by obtain ⟨t, rfl, _⟩ := h; exact Gl.d_n t)
      exact (reads_struct ti55 rfl (FieldsTo.cons ti3 (reads_int und_int n) (FieldsTo.cons ti9 (reads_str und_string n) (FieldsTo.cons ti52 (read_TermS n) (FieldsTo.cons ti53 (hs) FieldsTo.nil))))).weaken fun d h => by
        obtain ⟨ds, rfl, h⟩ := h
        obtain ⟨_, _, rfl, ⟨x0, rfl, w0⟩, q0⟩ := h.cons
        obtain ⟨_, _, rfl, ⟨x1, rfl, w1⟩, q1⟩ := q0.cons
        obtain ⟨_, _, rfl, ⟨x2, rfl, w2⟩, q2⟩ := q1.cons
        obtain ⟨_, _, rfl, ⟨xs, rfl, hxs⟩, q3⟩ := q2.cons
        obtain ⟨x3, rfl⟩ := lift_list (f := Gl.d) fun x h => by obtain ⟨t, h, _⟩ := hxs x h; exact ⟨t, h⟩
        have w3 : D.wds (x3.map Gl.d) := D.wds_of fun x hm => by obtain ⟨t, rfl, h⟩ := hxs x hm; exact h
        obtain rfl := q3.nil
        refine ⟨.mk x0 x1 x2 x3, (Gl.d_eq (.mk x0 x1 x2 x3)).symm, ?_⟩
        rw [Gl.d_eq]
        exact ⟨w0, w1, w2, w3, trivial⟩
end
end Go.Vx

/- Contracts: names of relations. -/
namespace Go.Vx
open Go.Proofs Classical
/-! ### Names of relations -/
def rsv : List ByteArray := [⟨#[116, 114, 117, 101]⟩, ⟨#[102, 97, 105, 108]⟩, ⟨#[115, 121, 109, 98, 111, 108]⟩, ⟨#[110, 117, 109, 98, 101, 114]⟩, ⟨#[97, 98, 115, 101, 110, 116]⟩, ⟨#[97, 110, 100]⟩, ⟨#[111, 114]⟩, ⟨#[110, 111, 116]⟩, ⟨#[100, 101, 102, 105, 110, 101]⟩]
def IsRel (s : ByteArray) : Prop := s ∉ rsv ∧ IsNm s
theorem impl_IsRelName_spec (s : ByteArray) (μ : Mem) : Gives Try.prog 36 [.string s] μ (.bool (decide (IsRel s))) := by
  refine Spec.mk Try.func36 (by kernel_rfl) ?_
  have bad : s ∈ rsv → Value.bool false = .bool (decide (IsRel s)) := fun h => by
    have : ¬ IsRel s := fun k => k.1 h
    simp [this]
  repeat' (first
    | refine ifd (fun h => ?_) (fun h => ?_) <;> try contradiction
    | refine call_gives (impl_IsName_spec s μ) (ret_gives ?_ rfl)
    | refine ret_gives ?_ rfl)
  all_goals first
    | (refine bad ?_; subst_vars; simp [rsv])
    | (have : s ∉ rsv := by simp only [rsv, List.mem_cons, List.not_mem_nil, or_false, not_or]; simp_all
       simp [IsRel, this])
theorem spec_IsRelName_spec (s : ByteArray) (hs : s.size ≤ maxLen) (μ : Mem) : Gives Try.prog 46 [.string s] μ (.bool (decide (IsRel s))) := by
  refine Spec.mk Try.func46 (by kernel_rfl) ?_
  have bad : s ∈ rsv → Value.bool false = .bool (decide (IsRel s)) := fun h => by
    have : ¬ IsRel s := fun k => k.1 h
    simp [this]
  intro r
  refine loop_intro (fun i : Nat => i ≤ 9 ∧ ∀ x ∈ rsv.take i, x ≠ s) (fun i => ⟨[(0, .val (.string s)), (5, .row 0 (some r) 9 9), (6, .val (.int .i64 9)), (7, .val (.int .i64 i))], [(0, some (.row (some r) 9 9 1 (rsv.map .string)))], 1, μ, Mem.nil⟩) (fun i => 9 - i)
    0 ⟨by omega, by simp⟩ (fun i => ⟨rfl, rfl⟩) ⟨⟨rfl, rfl, rfl, rfl, trivial⟩, ⟨rfl, trivial⟩, rfl, rfl⟩ ?_
  rintro i ⟨hi, hall⟩
  refine ifd (fun h => ?_) (fun h => ?_)
  · have hi : i < 9 := by omega
    obtain ⟨x, hx⟩ : ∃ x, rsv[i]? = some x := ⟨_, List.getElem?_eq_getElem (by simpa [rsv] using hi)⟩
    refine rel_intro i rfl (by omega) (get_intro (.string x) (by simp [hx]) ?_)
    refine ifd (fun h => ret_gives (bad ?_) rfl) (fun h => ?_)
    · subst h; exact List.mem_of_getElem? hx
    · refine num64 (by omega) (by omega) ⟨i + 1, ⟨by omega, fun y hy => ?_⟩, by omega, ⟨⟨rfl, rfl, rfl, rfl, trivial⟩, ⟨rfl, trivial⟩, rfl, rfl⟩⟩
      rw [List.take_add_one, hx] at hy
      simp only [Option.toList_some, List.mem_append, List.mem_singleton] at hy
      rcases hy with hy | rfl
      · exact hall y hy
      · exact h
  · refine call_gives (spec_IsName_spec s hs μ) (ret_gives ?_ rfl)
    have hi : i = 9 := by omega
    subst hi
    have : s ∉ rsv := fun k => hall s (by simpa [rsv] using k) rfl
    simp [IsRel, this]
end Go.Vx

/- Contracts: which goals are well-formed. -/
namespace Go.Vx
open Go.Proofs Classical
/-! ### Plain -/
mutual
def Gl.cnt : Gl → Nat
  | .mk _ _ _ l => 1 + Gl.cnts l
def Gl.cnts : List Gl → Nat
  | [] => 0
  | t :: r => t.cnt + Gl.cnts r
end
theorem Gl.cnt_eq1 (g : Gl) : g.cnt = 1 + Gl.cnts g.goals := by cases g; rfl
theorem Gl.cnt_pos (g : Gl) : 1 ≤ g.cnt := by rw [Gl.cnt_eq1]; omega
theorem Gl.cnts_append : ∀ (a c : List Gl), Gl.cnts (a ++ c) = Gl.cnts a + Gl.cnts c
  | [], c => by simp [Gl.cnts]
  | d :: r, c => by simp [Gl.cnts, Gl.cnts_append r c, Nat.add_assoc]
theorem Gl.cnts_take {xs : List Gl} {j : Nat} {x : Gl} (h : xs[j]? = some x) : Gl.cnts (xs.take (j + 1)) = Gl.cnts (xs.take j) + x.cnt := by
  rw [List.take_add_one, h, Option.toList_some, Gl.cnts_append]; simp [Gl.cnts]
theorem Gl.cnts_le (xs : List Gl) (j : Nat) : Gl.cnts (xs.take j) ≤ Gl.cnts xs := by
  have := Gl.cnts_append (xs.take j) (xs.drop j)
  rw [List.take_append_drop] at this; omega
/-- What a goal's own node must be. -/
structure TopOk (g : Gl) : Prop where
  tm : ∀ t ∈ g.terms, t.Ok
  k0 : 0 ≤ g.kind
  k1 : g.kind ≤ 10
  nm : g.kind ≠ 9 → g.name = ⟨#[]⟩
  rel : g.kind = 9 → IsRel g.name
  ln9 : g.kind = 9 → g.terms.length ≤ 4
  ln2 : g.kind = 2 ∨ g.kind = 3 ∨ g.kind = 6 → g.terms.length = 2
  ln1 : g.kind = 4 ∨ g.kind = 5 → g.terms.length = 1
  ln0 : g.kind = 0 ∨ g.kind = 1 ∨ g.kind = 7 ∨ g.kind = 8 ∨ g.kind = 10 → g.terms.length = 0
  gl : g.goals.length ≤ 8
  gl0 : g.kind < 7 ∨ g.kind = 9 → g.goals.length = 0
  gl1 : g.kind = 10 → g.goals.length = 1
  sy : g.kind = 6 → ∀ a, g.terms[0]? = some a → a.kind = 2
  cl : g.kind = 10 → ∀ b, g.goals[0]? = some b → b.kind = 9
inductive Gl.Sh : Gl → Prop
  | mk {g : Gl} (top : TopOk g) (sub : ∀ x ∈ g.goals, x.Sh) : g.Sh
theorem Gl.Sh.top {g : Gl} (h : g.Sh) : TopOk g := by cases h; assumption
theorem Gl.Sh.sub {g : Gl} (h : g.Sh) : ∀ x ∈ g.goals, x.Sh := by cases h; assumption
def Gl.Ok (g : Gl) : Prop := g.Sh ∧ g.cnt ≤ 80
section
variable {μ : Mem}
theorem l13Count_spec : ∀ (g : Gl) {v : Value} {most : Int}, RepV μ g.d v → -1000000000000 ≤ most → most ≤ 1000000000000 → Gives Try.prog 32 [v, .int .i64 most] μ (.int .i64 (upTo g.cnt most)) :=
  Gl.ind fun g ih v most hv h1 h2 => by
    obtain ⟨p, rfl, -, hsl⟩ := Gl.inv hv
    have hn := maxLen_le hsl.max
    have hge := Gl.cnt_eq1 g
    generalize hl : g.goals = l at *
    refine Spec.mk Try.func32 (by kernel_rfl) ?_
    intro r
    refine loop_intro (fun i : Nat => i ≤ l.length) (fun i => ⟨[(1, .val (.int .i64 most)), (5, .val (.int .i64 (upTo (1 + Gl.cnts (l.take i) : Nat) most))), (9, .val (.slice p.2.1 l.length p.2.2)), (10, .val (.int .i64 l.length)), (11, .val (.int .i64 i))], [], 1, μ, Mem.nil⟩) (fun i => l.length - i)
      0 (by omega) (fun i => ⟨rfl, rfl⟩) ⟨⟨rfl, by show some (SV.val (.int .i64 _)) = some (SV.val (.int .i64 _)); congr 3; simp [Gl.cnts, upTo]; omega, rfl, rfl, rfl, trivial⟩, trivial, rfl, rfl⟩ ?_
    intro i hi
    refine ifd (fun h => ?_) (fun h => ?_)
    · obtain ⟨t, ht⟩ := at_some (l := l) (i := i) (by omega)
      have hc := Gl.cnts_take ht
      have hc' := Gl.cnts_le l (i + 1)
      obtain ⟨ad, p, hel, hr⟩ := Gl.elem hsl ht
      refine elem_intro hel ?_
      intro r2
      refine ifd (fun h => ret_gives ?_ rfl) (fun h => ?_)
      · simp only [upTo] at h ⊢
        congr 1; omega
      · have hb : upTo (1 + Gl.cnts (l.take i) : Nat) most ≤ 1000000000001 ∧ 1 ≤ upTo (1 + Gl.cnts (l.take i) : Nat) most := by unfold upTo; omega
        refine num64 (by omega) (by omega) ?_
        refine call_gives (ih t (mem_at ht) hr (by omega) (by omega)) ?_
        refine num_eq (x := upTo (1 + Gl.cnts (l.take (i + 1)) : Nat) most) ?_ ?_
        · have hb2 : upTo (t.cnt : Int) (most - upTo (1 + Gl.cnts (l.take i) : Nat) most) ≤ 1000000000001 ∧ 1 ≤ upTo (t.cnt : Int) (most - upTo (1 + Gl.cnts (l.take i) : Nat) most) := by
            have := t.cnt_pos
            unfold upTo at hb h ⊢
            omega
          rw [wrap64 (by omega) (by omega), hc]
          unfold upTo at h ⊢; omega
        · exact num64 (by omega) (by omega) ⟨i + 1, by omega, by omega, ⟨⟨rfl, rfl, rfl, rfl, rfl, trivial⟩, trivial, rfl, rfl⟩⟩
    · obtain rfl : i = l.length := by omega
      rw [List.take_length]
      exact ret_gives (by rw [hge]) rfl
theorem kinds_at {n k : Nat} (hk : k ≤ 10) : ([.int .i64 0, .int .i64 0, .int .i64 2, .int .i64 2, .int .i64 1, .int .i64 1, .int .i64 2, .int .i64 0, .int .i64 0, .int .i64 n, .int .i64 0] : List Value)[k]? = some (.int .i64 (if k = 2 ∨ k = 3 ∨ k = 6 then 2 else if k = 4 ∨ k = 5 then 1 else if k = 9 then n else 0)) := by
  match k, hk with
  | 0, _ => rfl
  | 1, _ => rfl
  | 2, _ => rfl
  | 3, _ => rfl
  | 4, _ => rfl
  | 5, _ => rfl
  | 6, _ => rfl
  | 7, _ => rfl
  | 8, _ => rfl
  | 9, _ => rfl
  | 10, _ => rfl
theorem l13Shape_spec : ∀ (g : Gl) {v : Value}, RepV μ g.d v → g.d.wd → Gives Try.prog 33 [v] μ (.bool (decide g.Sh)) :=
  Gl.ind fun g ih v hv hw => by
    obtain ⟨p, rfl, hts, hgs⟩ := Gl.inv hv
    have hn1 := maxLen_le hts.max
    have hn2 := maxLen_le hgs.max
    rw [Gl.d_eq] at hw
    have hs : g.name.size ≤ maxLen := hw.2.1
    have wt : D.wds (g.terms.map Tm.d) := hw.2.2.1
    have wg : D.wds (g.goals.map Gl.d) := hw.2.2.2.1
    have bad : ¬ TopOk g → Value.bool false = .bool (decide g.Sh) := fun h => isF fun k => h k.top
    refine Spec.mk Try.func33 (by kernel_rfl) ?_
    intro r
    refine call_gives (l01In_spec _ _ _ _) ?_
    refine ifnd (fun h => ret_gives (bad fun T => h ⟨T.k0, T.k1⟩) rfl) (fun hk => ?_)
    refine ifnd (fun h9 => ifnd (fun hne => ret_gives (bad fun T => hne (T.nm h9)) rfl) (fun hnm => ?_)) (fun h9 => ?_)
    all_goals refine call_gives (l02AllOk_spec hts wt) ?_
    all_goals refine ifnd (fun h => ret_gives (bad fun T => h T.tm) rfl) (fun htm => ?_)
    all_goals intro r2
    all_goals obtain ⟨k, hk'⟩ : ∃ k : Nat, g.kind = k := ⟨g.kind.toNat, by omega⟩
    all_goals refine rel_intro k hk' (by omega) (get_intro _ (kinds_at (by omega)) ?_)
    all_goals refine ifnd (fun hlen => ret_gives (bad fun T => hlen ?_) rfl) (fun hlen => ?_)
    any_goals (have e9 := T.ln9; have e2 := T.ln2; have e1 := T.ln1; have e0 := T.ln0; have := T.gl; omega)
    all_goals refine ifd (fun h4 => ret_gives (bad fun T => ?_) rfl) (fun h4 => ?_)
    any_goals (have e9 := T.ln9; have e2 := T.ln2; have e1 := T.ln1; have e0 := T.ln0; have := T.gl; omega)
    all_goals refine ifd (fun h7 => ifd (fun h0 => ret_gives (bad fun T => ?_) rfl) (fun h0 => ?_)) (fun h7 => ?_)
    any_goals (have e9 := T.gl0; omega)
    all_goals refine ifd (fun h8 => ret_gives (bad fun T => ?_) rfl) (fun h8 => ?_)
    any_goals (have e9 := T.gl; omega)
    all_goals refine loop_intro (fun i : Nat => i ≤ g.goals.length ∧ ∀ t ∈ g.goals.take i, t.Sh) (fun i => ⟨[(1, .loc 0 r 0), (61, .val (.slice p.2.1 g.goals.length p.2.2)), (62, .val (.int .i64 g.goals.length)), (63, .val (.int .i64 i))], [(0, some (.cells r [.val (.int .i64 g.kind), .val (.string g.name), .val (.slice p.1.1 g.terms.length p.1.2), .val (.slice p.2.1 g.goals.length p.2.2)] 41))], 2, μ, Mem.nil⟩) (fun i => g.goals.length - i) 0 ⟨by omega, by simp⟩ (fun i => ⟨rfl, rfl⟩) ⟨⟨rfl, rfl, rfl, rfl, trivial⟩, ⟨rfl, trivial⟩, rfl, rfl⟩ ?_
    all_goals rintro i ⟨hi, hall⟩
    all_goals refine ifd (fun h => ?_) (fun h => ?_)
    any_goals
      obtain ⟨t, ht⟩ := at_some (l := g.goals) (i := i) (by omega)
      obtain ⟨ad, p, hel, hr⟩ := Gl.elem hgs ht
      refine elem_intro hel ?_
      intro r3
      refine call_gives (ih t (mem_at ht) hr (D.wds_mem wg _ (mem_at (at_map (f := Gl.d) ht)))) ?_
      refine ifnd (fun h => ret_gives (isF fun S => h (S.sub t (mem_at ht))) rfl) (fun h => ?_)
      refine num64 (by omega) (by omega) ⟨i + 1, ⟨by omega, fun x hx => ?_⟩, by omega, ⟨⟨rfl, rfl, rfl, rfl, trivial⟩, ⟨rfl, trivial⟩, rfl, rfl⟩⟩
      rw [List.take_add_one, ht, Option.toList_some, List.mem_append, List.mem_singleton] at hx
      rcases hx with hx | rfl
      · exact hall x hx
      · exact h
    all_goals obtain rfl : i = g.goals.length := by omega
    all_goals rw [List.take_length] at hall
    all_goals
      have mk : (g.kind = 9 → IsRel g.name) → (g.kind = 10 → g.goals.length = 1) → (g.kind = 9 → g.goals.length = 0) → (g.kind = 6 → ∀ a, g.terms[0]? = some a → a.kind = 2) → (g.kind = 10 → ∀ b, g.goals[0]? = some b → b.kind = 9) → g.Sh := fun a b c d e =>
        .mk ⟨htm, by omega, by omega, by first | exact fun _ => hnm | exact fun h => absurd h9 h, a, by omega, by omega, by omega, by omega, by omega, by omega, b, d, e⟩ hall
    all_goals refine ifd (fun h6 => ?_) (fun h6 => ?_)
    any_goals
      obtain ⟨a, ha⟩ := at_some (l := g.terms) (i := 0) (by omega)
      obtain ⟨ad, p, hel, hr⟩ := Tm.elem hts ha
      refine elem_intro hel ?_
      exact ret_gives (isI ⟨fun hh => mk (by omega) (by omega) (by omega) (fun _ x hx => by rw [ha] at hx; cases hx; exact hh) (by omega), fun S => S.top.sy h6 a ha⟩) rfl
    all_goals refine ifd (fun h9 => ?_) (fun h9 => ?_)
    any_goals omega
    any_goals
      refine ifd (fun h0 => call_gives (spec_IsRelName_spec _ hs _) (ret_gives (isI ⟨fun hh => mk (fun _ => hh) (by omega) (by omega) (by omega) (by omega), fun S => S.top.rel h9⟩) rfl)) (fun h0 => ret_gives (isF fun S => ?_) rfl)
      have := S.top.gl0; omega
    all_goals refine ifd (fun h10 => ?_) (fun h10 => ret_gives (isT (mk (by omega) (by omega) (by omega) (by omega) (by omega))) rfl)
    any_goals omega
    all_goals refine ifd (fun h1 => ?_) (fun h1 => ret_gives (isF fun S => h1 ?_) rfl)
    any_goals (have := S.top.gl1; omega)
    all_goals
      obtain ⟨b, hb⟩ := at_some (l := g.goals) (i := 0) (by omega)
      obtain ⟨ad, p, hel, hr⟩ := Gl.elem hgs hb
      refine elem_intro hel ?_
      exact ret_gives (isI ⟨fun hh => mk (by omega) (by omega) (by omega) (by omega) (fun _ x hx => by rw [hb] at hx; cases hx; exact hh), fun S => S.top.cl h10 b hb⟩) rfl
end
end Go.Vx

/- Contracts: well-formed goals, both sides. -/
namespace Go.Vx
open Go.Proofs Classical
/-- 'goalNodes': the nodes of a well-formed goal that fits; else -1. -/
noncomputable def Gl.nodes (t : Gl) (room : Int) : Int := if t.Sh ∧ (t.cnt : Int) ≤ room then t.cnt else -1
theorem Gl.nodes_neg {t : Gl} {room : Int} (h : ¬ (t.Sh ∧ (t.cnt : Int) ≤ room)) : Value.int .i64 (-1) = .int .i64 (t.nodes room) := by rw [Gl.nodes, if_neg h]
theorem Gl.nodes_pos {t : Gl} {room : Int} (h : t.Sh) (h2 : (t.cnt : Int) ≤ room) : t.nodes room = t.cnt := by rw [Gl.nodes, if_pos ⟨h, h2⟩]
theorem Gl.nodes_lt {t : Gl} {room : Int} (h : t.nodes room < 0) : ¬ (t.Sh ∧ (t.cnt : Int) ≤ room) := fun k => by rw [Gl.nodes, if_pos k] at h; omega
theorem Gl.nodes_ge {t : Gl} {room : Int} (h : ¬ t.nodes room < 0) : t.Sh ∧ (t.cnt : Int) ≤ room ∧ t.nodes room = t.cnt := by
  by_cases k : t.Sh ∧ (t.cnt : Int) ≤ room
  · exact ⟨k.1, k.2, by rw [Gl.nodes, if_pos k]⟩
  · rw [Gl.nodes, if_neg k] at h; omega
/-- The map of how many terms a kind has. -/
noncomputable def kmap : List (Value × Value) := mset (mset (mset (mset (mset [] (.int .i64 2) (.int .i64 2)) (.int .i64 3) (.int .i64 2)) (.int .i64 4) (.int .i64 1)) (.int .i64 5) (.int .i64 1)) (.int .i64 6) (.int .i64 2)
theorem kmap_get (k : Int) : mget kmap (.int .i64 k) = if k = 6 then some (.int .i64 2) else if k = 5 then some (.int .i64 1) else if k = 4 then some (.int .i64 1) else if k = 3 then some (.int .i64 2) else if k = 2 then some (.int .i64 2) else none := by
  unfold kmap
  rw [mget_int, mget_int, mget_int, mget_int, mget_int]
  rfl
section
variable {μ : Mem}
theorem spec_GoalOk_spec (g : Gl) {v : Value} (hv : RepV μ g.d v) (hw : g.d.wd) : Gives Try.prog 21 [v] μ (.bool (decide g.Ok)) := by
  obtain ⟨p, rfl⟩ := Gl.invV hv
  refine Spec.mk Try.func21 (by kernel_rfl) ?_
  intro r
  refine call_gives (l13Count_spec g hv (by decide) (by decide)) ?_
  refine ifd (fun h => ?_) (fun h => ret_gives (isF fun hh => ?_) rfl)
  · refine call_gives (l13Shape_spec g hv hw) (ret_gives (isI ⟨fun hh => ⟨hh, ?_⟩, fun hh => hh.1⟩) rfl)
    unfold upTo at h; omega
  · have := hh.2; unfold upTo at h; omega
theorem goalNodes_spec : ∀ (g : Gl) {v : Value} {room : Int}, RepV μ g.d v → -1000000000000 ≤ room → room ≤ 1000000000000 → Gives Try.prog 38 [v, .int .i64 room] μ (.int .i64 (g.nodes room)) :=
  Gl.ind fun g ih v room hv hr1 hr2 => by
    obtain ⟨p, rfl, hts, hgs⟩ := Gl.inv hv
    have hn1 := maxLen_le hts.max
    have hn2 := maxLen_le hgs.max
    have hpos := g.cnt_pos
    have hce := g.cnt_eq1
    have bad : ¬ TopOk g → Value.int .i64 (-1) = .int .i64 (g.nodes room) := fun h => Gl.nodes_neg fun k => h k.1.top
    refine Spec.mkO [18] Try.func38 (by kernel_rfl) ?_
    intro r
    refine ifd (fun h => ret_gives (Gl.nodes_neg fun k => by omega) rfl) (fun h1 => ?_)
    refine call_gives (termsOk_spec hts) ?_
    refine ifnd (fun h => ret_gives (bad fun T => h T.tm) rfl) (fun htm => ?_)
    intro rM hmM hoM
    have k0 : MapOk IntKey [] := MapOk.nil
    have k1 := k0.int (n := 2) (.int .i64 2)
    have k2 := k1.int (n := 3) (.int .i64 2)
    have k3 := k2.int (n := 4) (.int .i64 1)
    have k4 := k3.int (n := 5) (.int .i64 1)
    have k5 := k4.int (n := 6) (.int .i64 2)
    refine upd_intro _ (Mem.set_at _ _ _) (k0.weaken (by rintro _ ⟨n, rfl⟩; rfl)) rfl ?_
    refine upd_intro _ (Mem.set_at _ _ _) (k1.weaken (by rintro _ ⟨n, rfl⟩; rfl)) rfl ?_
    refine upd_intro _ (Mem.set_at _ _ _) (k2.weaken (by rintro _ ⟨n, rfl⟩; rfl)) rfl ?_
    refine upd_intro _ (Mem.set_at _ _ _) (k3.weaken (by rintro _ ⟨n, rfl⟩; rfl)) rfl ?_
    refine upd_intro _ (Mem.set_at _ _ _) (k4.weaken (by rintro _ ⟨n, rfl⟩; rfl)) rfl ?_
    generalize hh : Mem.set (Mem.set (Mem.set (Mem.set (Mem.set (Mem.set _ rM _) rM _) rM _) rM _) rM _) rM _ = h0
    have hm : h0 rM = some (mapO kmap) := by subst hh; exact Mem.set_at _ _ _
    clear hh hmM hoM
    have one : TopOk g → g.goals.length = 0 → Value.int .i64 1 = .int .i64 (g.nodes room) := fun T h => by
      have e : g.goals = [] := List.eq_nil_of_length_eq_zero h
      have hc : g.cnt = 1 := by rw [hce, e]; rfl
      rw [Gl.nodes_pos (.mk T (by rw [e]; simp)) (by omega), hc]; rfl
    have htm : ∀ t ∈ g.terms, t.Ok := htm
    rcases (by omega : g.kind = 6 ∨ g.kind = 5 ∨ g.kind = 4 ∨ g.kind = 3 ∨ g.kind = 2 ∨ ¬ (2 ≤ g.kind ∧ g.kind ≤ 6)) with e | e | e | e | e | e
    · refine look_intro kmap (some (.int .i64 2)) hm (k5.weaken (by rintro _ ⟨n, rfl⟩; rfl)) rfl (by rw [kmap_get]; simp [e]) ?_
      repeat (refine ifd (fun h => ?_) (fun h => ?_) <;> try (exfalso; omega))
      refine ifnd (fun h => ret_gives (bad fun T => h (T.nm (by omega))) rfl) (fun hnm => ?_)
      refine ifnd (fun h => ret_gives (bad fun T => h (by have := T.gl0; omega)) rfl) (fun hg0 => ?_)
      refine ifnd (fun h => ret_gives (bad fun T => h (by have := T.ln2; omega)) rfl) (fun hl => ?_)
      refine ifd (fun _ => ?_) (fun h => absurd e h)
      obtain ⟨a, ha⟩ := at_some (l := g.terms) (i := 0) (by omega)
      obtain ⟨ad, p, hel, hr⟩ := Tm.elem hts ha
      refine elem_intro hel ?_
      refine ifnd (fun h => ret_gives (bad fun T => h (T.sy e a ha)) rfl) (fun h => ?_)
      exact ret_gives (one ⟨htm, by omega, by omega, fun _ => hnm, by omega, by omega, by omega, by omega, by omega, by omega, by omega, by omega, fun _ x hx => by rw [ha] at hx; cases hx; exact h, by omega⟩ (by omega)) rfl
    · refine look_intro kmap (some (.int .i64 1)) hm (k5.weaken (by rintro _ ⟨n, rfl⟩; rfl)) rfl (by rw [kmap_get]; simp [e]) ?_
      repeat (refine ifd (fun h => ?_) (fun h => ?_) <;> try (exfalso; omega))
      refine ifnd (fun h => ret_gives (bad fun T => h (T.nm (by omega))) rfl) (fun hnm => ?_)
      refine ifnd (fun h => ret_gives (bad fun T => h (by have := T.gl0; omega)) rfl) (fun hg0 => ?_)
      refine ifnd (fun h => ret_gives (bad fun T => h (by have := T.ln1; omega)) rfl) (fun hl => ?_)
      refine ifd (fun h => by omega) (fun h => ?_)
      exact ret_gives (one ⟨htm, by omega, by omega, fun _ => hnm, by omega, by omega, by omega, by omega, by omega, by omega, by omega, by omega, by omega, by omega⟩ (by omega)) rfl
    · refine look_intro kmap (some (.int .i64 1)) hm (k5.weaken (by rintro _ ⟨n, rfl⟩; rfl)) rfl (by rw [kmap_get]; simp [e]) ?_
      repeat (refine ifd (fun h => ?_) (fun h => ?_) <;> try (exfalso; omega))
      refine ifnd (fun h => ret_gives (bad fun T => h (T.nm (by omega))) rfl) (fun hnm => ?_)
      refine ifnd (fun h => ret_gives (bad fun T => h (by have := T.gl0; omega)) rfl) (fun hg0 => ?_)
      refine ifnd (fun h => ret_gives (bad fun T => h (by have := T.ln1; omega)) rfl) (fun hl => ?_)
      refine ifd (fun h => by omega) (fun h => ?_)
      exact ret_gives (one ⟨htm, by omega, by omega, fun _ => hnm, by omega, by omega, by omega, by omega, by omega, by omega, by omega, by omega, by omega, by omega⟩ (by omega)) rfl
    · refine look_intro kmap (some (.int .i64 2)) hm (k5.weaken (by rintro _ ⟨n, rfl⟩; rfl)) rfl (by rw [kmap_get]; simp [e]) ?_
      repeat (refine ifd (fun h => ?_) (fun h => ?_) <;> try (exfalso; omega))
      refine ifnd (fun h => ret_gives (bad fun T => h (T.nm (by omega))) rfl) (fun hnm => ?_)
      refine ifnd (fun h => ret_gives (bad fun T => h (by have := T.gl0; omega)) rfl) (fun hg0 => ?_)
      refine ifnd (fun h => ret_gives (bad fun T => h (by have := T.ln2; omega)) rfl) (fun hl => ?_)
      refine ifd (fun h => by omega) (fun h => ?_)
      exact ret_gives (one ⟨htm, by omega, by omega, fun _ => hnm, by omega, by omega, by omega, by omega, by omega, by omega, by omega, by omega, by omega, by omega⟩ (by omega)) rfl
    · refine look_intro kmap (some (.int .i64 2)) hm (k5.weaken (by rintro _ ⟨n, rfl⟩; rfl)) rfl (by rw [kmap_get]; simp [e]) ?_
      repeat (refine ifd (fun h => ?_) (fun h => ?_) <;> try (exfalso; omega))
      refine ifnd (fun h => ret_gives (bad fun T => h (T.nm (by omega))) rfl) (fun hnm => ?_)
      refine ifnd (fun h => ret_gives (bad fun T => h (by have := T.gl0; omega)) rfl) (fun hg0 => ?_)
      refine ifnd (fun h => ret_gives (bad fun T => h (by have := T.ln2; omega)) rfl) (fun hl => ?_)
      refine ifd (fun h => by omega) (fun h => ?_)
      exact ret_gives (one ⟨htm, by omega, by omega, fun _ => hnm, by omega, by omega, by omega, by omega, by omega, by omega, by omega, by omega, by omega, by omega⟩ (by omega)) rfl
    · refine look_intro kmap none hm (k5.weaken (by rintro _ ⟨n, rfl⟩; rfl)) rfl (by rw [kmap_get, if_neg (by omega), if_neg (by omega), if_neg (by omega), if_neg (by omega), if_neg (by omega)]) ?_
      by_cases e2 : g.kind = 0 ∨ g.kind = 1
      · repeat' (refine ifd (fun h => ?_) (fun h => ?_) <;> try (exfalso; omega))
        all_goals
          refine ifnd (fun h => ret_gives (bad fun T => h (T.nm (by omega))) rfl) (fun hnm => ?_)
          refine ifnd (fun h => ret_gives (bad fun T => h (by have := T.gl0; omega)) rfl) (fun hg0 => ?_)
          refine ifnd (fun h => ret_gives (bad fun T => h (by have := T.ln0; omega)) rfl) (fun hl => ?_)
          refine ifd (fun h => by omega) (fun h => ?_)
          exact ret_gives (one ⟨htm, by omega, by omega, fun _ => hnm, by omega, by omega, by omega, by omega, by omega, by omega, by omega, by omega, by omega, by omega⟩ (by omega)) rfl
      · by_cases e9 : g.kind = 9
        · repeat (refine ifd (fun h => ?_) (fun h => ?_) <;> try (exfalso; omega))
          refine call_gives (impl_IsRelName_spec _ _) ?_
          refine ifnd (fun h => ret_gives (bad fun T => h (T.rel e9)) rfl) (fun hnm => ?_)
          refine ifnd (fun h => ret_gives (bad fun T => h (by have := T.gl0; omega)) rfl) (fun hg0 => ?_)
          refine ifd (fun h => ret_gives (bad fun T => by have := T.ln9; omega) rfl) (fun hl => ?_)
          exact ret_gives (one ⟨htm, by omega, by omega, by omega, fun _ => hnm, by omega, by omega, by omega, by omega, by omega, by omega, by omega, by omega, by omega⟩ (by omega)) rfl
        · by_cases e3 : g.kind = 7 ∨ g.kind = 8 ∨ g.kind = 10
          · have fin : ∀ k : Int, k = 1 + (Gl.cnts g.goals : Nat) → TopOk g → (∀ x ∈ g.goals, x.Sh) → k ≤ room → Value.int .i64 k = .int .i64 (g.nodes room) := fun k hk T hS hr => by
              rw [Gl.nodes_pos (.mk T hS) (by omega), hce, hk]; congr 1
            have top : g.name = ⟨#[]⟩ → g.terms.length = 0 → g.goals.length ≤ 8 → (g.kind = 10 → g.goals.length = 1) → (g.kind = 10 → ∀ b, g.goals[0]? = some b → b.kind = 9) → TopOk g := fun a b c d f =>
              ⟨htm, by omega, by omega, fun _ => a, by omega, by omega, by omega, by omega, by omega, c, by omega, d, by omega, f⟩
            repeat' (refine ifd (fun h => ?_) (fun h => ?_) <;> try (exfalso; omega))
            · refine ifnd (fun h => ret_gives (bad fun T => h (T.nm (by omega))) rfl) (fun hnm => ?_)
              refine ifnd (fun h => ret_gives (bad fun T => h (by have := T.ln0; omega)) rfl) (fun hl => ?_)
              refine ifd (fun h => ret_gives (bad fun T => by have := T.gl; omega) rfl) (fun h8 => ?_)
              have T := top hnm (by omega) (by omega) (by omega) (by omega)
              refine loop_intro (fun i : Nat => i ≤ g.goals.length ∧ (∀ x ∈ g.goals.take i, x.Sh) ∧ 1 + (Gl.cnts (g.goals.take i) : Int) ≤ room) (fun i => ⟨[(1, .val (.int .i64 room)), (6, .val (.int .i64 (1 + (Gl.cnts (g.goals.take i) : Int)))), (124, .val (.slice p.2.1 g.goals.length p.2.2)), (125, .val (.int .i64 g.goals.length)), (126, .val (.int .i64 i))], [], 1, μ, h0⟩) (fun i => g.goals.length - i)
                0 ⟨by omega, by simp, by simp [Gl.cnts]; omega⟩ (fun i => ⟨rfl, rfl⟩) ⟨⟨rfl, rfl, rfl, rfl, rfl, trivial⟩, trivial, rfl, rfl⟩ ?_
              rintro i ⟨hi, hall, hle⟩
              refine ifd (fun h => ?_) (fun h => ?_)
              · obtain ⟨t, ht⟩ := at_some (l := g.goals) (i := i) (by omega)
                have hc := Gl.cnts_take ht
                have hc' := Gl.cnts_le g.goals (i + 1)
                obtain ⟨ad, p3, hel, hr⟩ := Gl.elem hgs ht
                refine elem_intro hel ?_
                intro r2
                refine num64 (by omega) (by omega) ?_
                refine call_gives (ih t (mem_at ht) hr (by omega) (by omega)) ?_
                refine ifd (fun h => ret_gives (Gl.nodes_neg fun k => Gl.nodes_lt h ⟨k.1.sub t (mem_at ht), by omega⟩) rfl) (fun h => ?_)
                obtain ⟨hS, hcnt, he⟩ := Gl.nodes_ge h
                refine num_eq (x := 1 + (Gl.cnts (g.goals.take (i + 1)) : Int)) (by rw [he, wrap64 (by omega) (by omega), hc]; omega) ?_
                refine num64 (by omega) (by omega) ⟨i + 1, ⟨by omega, fun x hx => ?_, by omega⟩, by omega, ⟨⟨rfl, rfl, rfl, rfl, rfl, trivial⟩, trivial, rfl, rfl⟩⟩
                rw [List.take_add_one, ht, Option.toList_some, List.mem_append, List.mem_singleton] at hx
                rcases hx with hx | rfl
                · exact hall x hx
                · exact hS
              · obtain rfl : i = g.goals.length := by omega
                rw [List.take_length] at hall hle
                exact ret_gives (fin _ (by rw [List.take_length]) T hall (by rw [List.take_length]; exact hle)) rfl
            · refine ifnd (fun h => ret_gives (bad fun T => h (T.nm (by omega))) rfl) (fun hnm => ?_)
              refine ifnd (fun h => ret_gives (bad fun T => h (by have := T.ln0; omega)) rfl) (fun hl => ?_)
              refine ifd (fun h => ret_gives (bad fun T => by have := T.gl; omega) rfl) (fun h8 => ?_)
              have T := top hnm (by omega) (by omega) (by omega) (by omega)
              refine loop_intro (fun i : Nat => i ≤ g.goals.length ∧ (∀ x ∈ g.goals.take i, x.Sh) ∧ 1 + (Gl.cnts (g.goals.take i) : Int) ≤ room) (fun i => ⟨[(1, .val (.int .i64 room)), (6, .val (.int .i64 (1 + (Gl.cnts (g.goals.take i) : Int)))), (124, .val (.slice p.2.1 g.goals.length p.2.2)), (125, .val (.int .i64 g.goals.length)), (126, .val (.int .i64 i))], [], 1, μ, h0⟩) (fun i => g.goals.length - i)
                0 ⟨by omega, by simp, by simp [Gl.cnts]; omega⟩ (fun i => ⟨rfl, rfl⟩) ⟨⟨rfl, rfl, rfl, rfl, rfl, trivial⟩, trivial, rfl, rfl⟩ ?_
              rintro i ⟨hi, hall, hle⟩
              refine ifd (fun h => ?_) (fun h => ?_)
              · obtain ⟨t, ht⟩ := at_some (l := g.goals) (i := i) (by omega)
                have hc := Gl.cnts_take ht
                have hc' := Gl.cnts_le g.goals (i + 1)
                obtain ⟨ad, p3, hel, hr⟩ := Gl.elem hgs ht
                refine elem_intro hel ?_
                intro r2
                refine num64 (by omega) (by omega) ?_
                refine call_gives (ih t (mem_at ht) hr (by omega) (by omega)) ?_
                refine ifd (fun h => ret_gives (Gl.nodes_neg fun k => Gl.nodes_lt h ⟨k.1.sub t (mem_at ht), by omega⟩) rfl) (fun h => ?_)
                obtain ⟨hS, hcnt, he⟩ := Gl.nodes_ge h
                refine num_eq (x := 1 + (Gl.cnts (g.goals.take (i + 1)) : Int)) (by rw [he, wrap64 (by omega) (by omega), hc]; omega) ?_
                refine num64 (by omega) (by omega) ⟨i + 1, ⟨by omega, fun x hx => ?_, by omega⟩, by omega, ⟨⟨rfl, rfl, rfl, rfl, rfl, trivial⟩, trivial, rfl, rfl⟩⟩
                rw [List.take_add_one, ht, Option.toList_some, List.mem_append, List.mem_singleton] at hx
                rcases hx with hx | rfl
                · exact hall x hx
                · exact hS
              · obtain rfl : i = g.goals.length := by omega
                rw [List.take_length] at hall hle
                exact ret_gives (fin _ (by rw [List.take_length]) T hall (by rw [List.take_length]; exact hle)) rfl
            · refine ifnd (fun h => ret_gives (bad fun T => h (T.nm (by omega))) rfl) (fun hnm => ?_)
              refine ifnd (fun h => ret_gives (bad fun T => h (by have := T.ln0; omega)) rfl) (fun hl => ?_)
              refine ifnd (fun h => ret_gives (bad fun T => h (by have := T.gl1; omega)) rfl) (fun hg1 => ?_)
              obtain ⟨b, hb⟩ := at_some (l := g.goals) (i := 0) (by omega)
              obtain ⟨ad, p2, hel, hr⟩ := Gl.elem hgs hb
              refine elem_intro hel ?_
              refine ifnd (fun h => ret_gives (bad fun T => h (T.cl (by omega) b hb)) rfl) (fun hb9 => ?_)
              have T := top hnm (by omega) (by omega) (by omega) (fun _ x hx => by rw [hb] at hx; cases hx; exact hb9)
              refine loop_intro (fun i : Nat => i ≤ g.goals.length ∧ (∀ x ∈ g.goals.take i, x.Sh) ∧ 1 + (Gl.cnts (g.goals.take i) : Int) ≤ room) (fun i => ⟨[(1, .val (.int .i64 room)), (6, .val (.int .i64 (1 + (Gl.cnts (g.goals.take i) : Int)))), (124, .val (.slice p.2.1 g.goals.length p.2.2)), (125, .val (.int .i64 g.goals.length)), (126, .val (.int .i64 i))], [], 1, μ, h0⟩) (fun i => g.goals.length - i)
                0 ⟨by omega, by simp, by simp [Gl.cnts]; omega⟩ (fun i => ⟨rfl, rfl⟩) ⟨⟨rfl, rfl, rfl, rfl, rfl, trivial⟩, trivial, rfl, rfl⟩ ?_
              rintro i ⟨hi, hall, hle⟩
              refine ifd (fun h => ?_) (fun h => ?_)
              · obtain ⟨t, ht⟩ := at_some (l := g.goals) (i := i) (by omega)
                have hc := Gl.cnts_take ht
                have hc' := Gl.cnts_le g.goals (i + 1)
                obtain ⟨ad, p3, hel, hr⟩ := Gl.elem hgs ht
                refine elem_intro hel ?_
                intro r2
                refine num64 (by omega) (by omega) ?_
                refine call_gives (ih t (mem_at ht) hr (by omega) (by omega)) ?_
                refine ifd (fun h => ret_gives (Gl.nodes_neg fun k => Gl.nodes_lt h ⟨k.1.sub t (mem_at ht), by omega⟩) rfl) (fun h => ?_)
                obtain ⟨hS, hcnt, he⟩ := Gl.nodes_ge h
                refine num_eq (x := 1 + (Gl.cnts (g.goals.take (i + 1)) : Int)) (by rw [he, wrap64 (by omega) (by omega), hc]; omega) ?_
                refine num64 (by omega) (by omega) ⟨i + 1, ⟨by omega, fun x hx => ?_, by omega⟩, by omega, ⟨⟨rfl, rfl, rfl, rfl, rfl, trivial⟩, trivial, rfl, rfl⟩⟩
                rw [List.take_add_one, ht, Option.toList_some, List.mem_append, List.mem_singleton] at hx
                rcases hx with hx | rfl
                · exact hall x hx
                · exact hS
              · obtain rfl : i = g.goals.length := by omega
                rw [List.take_length] at hall hle
                exact ret_gives (fin _ (by rw [List.take_length]) T hall (by rw [List.take_length]; exact hle)) rfl
          · repeat (refine ifd (fun h => ?_) (fun h => ?_) <;> try (exfalso; omega))
            exact ret_gives (bad fun T => by have := T.k0; have := T.k1; omega) rfl
end
end Go.Vx

/- Contracts: goals visited; the variables of a goal. -/
namespace Go.Vx
open Go.Proofs Classical
/-! ### Plain -/
mutual
def Gl.all : Gl → List Gl
  | .mk k s ts gs => .mk k s ts gs :: Gl.alls gs
def Gl.alls : List Gl → List Gl
  | [] => []
  | g :: r => g.all ++ Gl.alls r
end
theorem Gl.alls_map : ∀ l : List Gl, Gl.alls l = l.flatMap Gl.all
  | [] => rfl
  | g :: r => by simp [Gl.alls, Gl.alls_map r]
theorem Gl.all_eq (g : Gl) : g.all = g :: g.goals.flatMap Gl.all := by
  cases g
  rw [Gl.all, Gl.alls_map]
  rfl
theorem Gl.Sh.all : ∀ (g : Gl), g.Sh → ∀ x ∈ g.all, x.Sh :=
  Gl.ind fun g ih h x hx => by
    rw [Gl.all_eq] at hx
    rcases List.mem_cons.1 hx with rfl | hx
    · exact h
    · obtain ⟨y, hy, hx⟩ := List.mem_flatMap.1 hx
      exact ih y hy (h.sub y hy) x hx
noncomputable def Gl.tvars (g : Gl) : List Int := (g.terms.map Tm.toT).flatMap T.vars
noncomputable def Gl.vars (g : Gl) : List Int := g.all.flatMap Gl.tvars
theorem foldl_snoc {α : Type} : ∀ (l s : List α), l.foldl (fun s n => s ++ [n]) s = s ++ l
  | [], s => by simp
  | a :: l, s => by rw [List.foldl_cons, foldl_snoc l]; simp
theorem foldl_app {α β : Type} (f : α → List β) : ∀ (l : List α) (s : List β), l.foldl (fun s x => s ++ f x) s = s ++ l.flatMap f
  | [], s => by simp
  | a :: l, s => by rw [List.foldl_cons, foldl_app f l]; simp
theorem toTs_tm' {xs : List T} : (xs.map T.tm).map Tm.toT = xs := by
  rw [List.map_map]
  exact (List.map_congr_left fun x _ => T.toT_tm x).trans (List.map_id _)
section
variable {μ : Mem}
theorem eachGoal_rel {S : Type} (J : S → Mem → Prop) (step : S → Gl → S) (Q : Gl → Prop) {k : FuncId} {caps : List Value}
    (hc : ∀ s h g v, Q g → RepV μ g.d v → J s h → SpecH Try.prog k (v :: caps) μ h fun r μ' h' => r = .tuple #[] ∧ μ' = μ ∧ J (step s g) h') :
    ∀ (g : Gl) {v : Value} (s : S) (h : Mem), RepV μ g.d v → (∀ x ∈ g.all, Q x) → J s h → SpecH Try.prog 56 [v, .func (.func k) #[] caps.toArray] μ h fun r μ' h' => r = .tuple #[] ∧ μ' = μ ∧ J (g.all.foldl step s) h' :=
  Gl.ind fun g ih v s h hv hq hj => by
    obtain ⟨p, rfl, hts, hgs⟩ := Gl.inv hv
    have hn := maxLen_le hgs.max
    rw [Gl.all_eq] at hq ⊢
    rw [List.foldl_cons]
    refine SpecH.mk [] Try.func56 (by kernel_rfl) ?_
    intro r
    refine call_own (hc s h g _ (hq g (by simp)) hv hj) fun v μ' h' hle hap hR => ?_
    obtain ⟨rfl, e2, hj'⟩ := hR
    obtain rfl := e2.symm
    refine loop_intro (fun p : Nat × Mem => p.1 ≤ g.goals.length ∧ J (((g.goals.take p.1).flatMap Gl.all).foldl step (step s g)) p.2)
      (fun (i, h) => ⟨[(1, .val (.func (.func k) #[] caps.toArray)), (10, .val (.slice p.2.1 g.goals.length p.2.2)), (11, .val (.int .i64 g.goals.length)), (12, .val (.int .i64 i))], [], 1, μ, h⟩) (fun p => g.goals.length - p.1)
      (0, h') ⟨by simp, by simpa using hj'⟩ (fun (_, _) => ⟨rfl, rfl⟩) ⟨⟨rfl, rfl, rfl, rfl, trivial⟩, trivial, rfl, rfl⟩ ?_
    rintro ⟨i, h1⟩ ⟨hi, hj1⟩
    dsimp only at hi hj1
    refine ifd (fun hlt => ?_) (fun hlt => ?_)
    · obtain ⟨t, ht⟩ := at_some (l := g.goals) (i := i) (by omega)
      obtain ⟨ad, p3, hel, hr⟩ := Gl.elem hgs ht
      refine elem_intro hel ?_
      intro r4
      refine call_own (ih t (mem_at ht) _ h1 hr (fun x hx => hq x (List.mem_cons_of_mem _ (List.mem_flatMap.2 ⟨t, mem_at ht, hx⟩))) hj1) fun v μ' h' hle hap hR => ?_
      obtain ⟨rfl, e2, hj2⟩ := hR
      obtain rfl := e2.symm
      refine num64 (by omega) (by omega) ⟨(i + 1, h'), ⟨by dsimp only; omega, ?_⟩, by dsimp only; omega, ⟨⟨rfl, rfl, rfl, rfl, trivial⟩, trivial, rfl, rfl⟩⟩
      dsimp only
      rw [List.take_add_one, ht, Option.toList_some, List.flatMap_append, List.foldl_append]
      simpa using hj2
    · obtain rfl : i = g.goals.length := by omega
      rw [List.take_length] at hj1
      exact ret_plain ⟨rfl, rfl, hj1⟩
/-- The map of variables: which it holds. -/
def KeysInv (rm : Nat) (s : List Int) (h : Mem) : Prop := ∃ r l, h rm = some (.cells #[.map (some r)] 100 (0, 0)) ∧ h r = some (mapO l) ∧ MapOk IntKey l ∧ ∀ n, (mget l (.int .i64 n)).isSome ↔ n ∈ s
theorem goalVars11_spec {rm : Nat} {s : List Int} {h : Mem} {n : Int} (H : KeysInv rm s h) : SpecH Try.prog 72 [.int .i64 n, .pointer (some ⟨rm, 0, none⟩)] μ h fun r μ' h' => r = .tuple #[] ∧ μ' = μ ∧ KeysInv rm (s ++ [n]) h' := by
  obtain ⟨r, l, h1, h2, hk, hg⟩ := H
  have e1 : rm ≠ r := ne_of_obj h1 h2 (by simp [mapO])
  refine SpecH.mk [] Try.func72 (by kernel_rfl) ?_
  refine own_intro [.map (some r)] rfl (box_at h1) ?_
  refine upd_intro l h2 (hk.weaken (by rintro _ ⟨n, rfl⟩; rfl)) rfl ?_
  refine ret_plain ⟨rfl, rfl, r, _, ?_, Mem.set_at _ _ _, hk.int _, fun m => ?_⟩
  · dsimp only; rw [Mem.set_ne e1]; exact h1
  · rw [mget_int, List.mem_append, List.mem_singleton]
    by_cases e : m = n
    · simp [e]
    · rw [if_neg e, hg]; simp [e]
theorem goalVars1_spec {rm : Nat} {s : List Int} {h : Mem} {g : Gl} {v : Value} (hok : ∀ t ∈ g.terms, t.Ok) (hv : RepV μ g.d v) (H : KeysInv rm s h) : SpecH Try.prog 70 [v, .pointer (some ⟨rm, 0, none⟩)] μ h fun r μ' h' => r = .tuple #[] ∧ μ' = μ ∧ KeysInv rm (s ++ g.tvars) h' := by
  obtain ⟨p, rfl, hts, hgs⟩ := Gl.inv hv
  obtain ⟨xs, hxs, hxo⟩ := lift_ok hok
  have htv : g.tvars = xs.flatMap T.vars := by
    rw [Gl.tvars, hxs, List.map_map]
    congr 1
    exact (List.map_congr_left fun x _ => T.toT_tm x).trans (List.map_id _)
  rw [htv]
  rw [hxs, List.length_map] at hts ⊢
  have hn := maxLen_le hts.max
  refine SpecH.mk [] Try.func70 (by kernel_rfl) ?_
  intro r
  refine loop_intro (fun p : Nat × Mem => p.1 ≤ xs.length ∧ KeysInv rm (s ++ (xs.take p.1).flatMap T.vars) p.2)
    (fun (i, h) => ⟨[(1, .val (.pointer (some ⟨rm, 0, none⟩))), (6, .val (.slice p.1.1 xs.length p.1.2)), (7, .val (.int .i64 xs.length)), (8, .val (.int .i64 i))], [], 1, μ, h⟩) (fun p => xs.length - p.1)
    (0, h) ⟨by simp, by simpa using H⟩ (fun (_, _) => ⟨rfl, rfl⟩) ⟨⟨rfl, rfl, rfl, rfl, trivial⟩, trivial, rfl, rfl⟩ ?_
  rintro ⟨i, h1⟩ ⟨hi, hj1⟩
  dsimp only at hi hj1
  refine ifd (fun hlt => ?_) (fun hlt => ?_)
  · obtain ⟨x, hx'⟩ := at_some (l := xs) (i := i) (by omega)
    obtain ⟨ad, p3, hel, hto⟩ := Tm.elem (i := i) (t := x.tm) hts (by simp [hx'])
    refine elem_intro hel ?_
    intro r4
    refine call_own (eachVar_rel (KeysInv rm) (fun s n => s ++ [n]) (fun _ _ => True) (fun s h n _ hj => goalVars11_spec hj) x _ h1 hto (fun _ _ _ _ => trivial) hj1) fun v μ' h' hle hap hR => ?_
    obtain ⟨rfl, e2, hj2⟩ := hR
    obtain rfl := e2.symm
    rw [foldl_snoc] at hj2
    refine num64 (by omega) (by omega) ⟨(i + 1, h'), ⟨by dsimp only; omega, ?_⟩, by dsimp only; omega, ⟨⟨rfl, rfl, rfl, rfl, trivial⟩, trivial, rfl, rfl⟩⟩
    dsimp only
    rw [List.take_add_one, hx', Option.toList_some, List.flatMap_append]
    simpa using hj2
  · obtain rfl : i = xs.length := by omega
    rw [List.take_length] at hj1
    exact ret_plain ⟨rfl, rfl, hj1⟩
theorem Gl.vars_range {g : Gl} (h : g.Sh) : ∀ n ∈ g.vars, 0 ≤ n ∧ n ≤ 100000 := fun n hn => by
  obtain ⟨x, hx, hn⟩ := List.mem_flatMap.1 hn
  obtain ⟨xs, hxs, hxo⟩ := lift_ok (h.all g x hx).top.tm
  rw [Gl.tvars, hxs, toTs_tm'] at hn
  obtain ⟨t, ht, hn⟩ := List.mem_flatMap.1 hn
  exact T.vars_range (hxo t ht).1 n hn
theorem goalVars_spec {g : Gl} {v : Value} (hS : g.Sh) (hv : RepV μ g.d v) : Spec Try.prog 55 [v] μ fun v μ' => ∃ xs : List Int, (∀ n, n ∈ xs ↔ n ∈ g.vars) ∧ xs.Pairwise (· < ·) ∧ Fresh μ μ' (.sl 1 (xs.map D.i)) v := by
  obtain ⟨p, rfl⟩ := Gl.invV hv
  refine Spec.mkO [3, 4] Try.func55 (by kernel_rfl) ?_
  intro r
  intro rM hmM hoM r3 hm3 ho3
  refine sto_intro [.map none] 100 (Mem.set_at _ _ _) rfl (Nat.le_refl _) ?_
  dsimp only at hmM hoM hm3 ho3
  have n1 : rM ≠ r3 := fun e => by subst e; simp [Mem.set_get] at ho3
  generalize hh : Mem.set (Mem.set _ r3 _) r3 _ = h0
  have H0 : KeysInv r3 [] h0 := by
    subst hh
    refine ⟨rM, [], ?_, ?_, MapOk.nil, fun n => by simp [mget]⟩
    · rw [Mem.set_at]; rfl
    · dsimp only; rw [Mem.set_ne n1, Mem.set_ne n1, Mem.set_at]
  refine call_own (eachGoal_rel (KeysInv r3) (fun s g => s ++ g.tvars) (fun g => ∀ t ∈ g.terms, t.Ok) (fun s h g v hq hv hj => goalVars1_spec hq hv hj) g [] h0 hv (fun x hx => (Gl.Sh.all g hS x hx).top.tm) H0) fun v μ' h' hle hap hR => ?_
  obtain ⟨rfl, e2, hj⟩ := hR
  obtain rfl := e2.symm
  rw [foldl_app] at hj
  obtain ⟨r, l, h1, h2, hk, hg⟩ := hj
  have hlen : l.length ≤ 1000000 := by
    obtain ⟨ks, hks, hnd⟩ := keys_ints hk
    have := nodup_range (N := 100001) hnd fun n hn => by
      have h3 := (hg n).1 ((mget_keys hks n).2 hn)
      have := Gl.vars_range hS n (by simpa [Gl.vars] using h3)
      omega
    have h4 := congrArg List.length hks
    simp only [ints, List.length_map] at h4
    omega
  refine own_intro [.map (some r)] rfl (box_at h1) ?_
  refine call_own (sortedInts_spec h2 hk hlen) fun v μ2 h2' hle2 hap2 hR2 => ?_
  obtain ⟨rfl, xs, g1, g2, g3⟩ := hR2
  exact ret_plain ⟨xs, fun n => (g1 n).trans ((hg n).trans (by simp [Gl.vars])), g2, g3⟩
theorem varsBelow_spec {g : Gl} {v : Value} {n : Int} (hS : g.Sh) (hv : RepV μ g.d v) : Spec Try.prog 39 [v, .int .i64 n] μ fun r _ => r = .bool (decide (∀ m ∈ g.vars, m < n)) := by
  obtain ⟨p, rfl⟩ := Gl.invV hv
  refine Spec.mk Try.func39 (by kernel_rfl) ?_
  intro r
  refine call_plain (goalVars_spec hS hv) fun v1 μ1 hle1 hR => ?_
  obtain ⟨xs, g1, g2, g3⟩ := hR
  obtain ⟨b, c, rfl, hsl⟩ := Rep.sl g3.rep
  rw [List.length_map] at hsl ⊢
  have hn := maxLen_le hsl.max
  refine loop_intro (fun i : Nat => i ≤ xs.length ∧ ∀ m ∈ xs.take i, m < n) (fun i => ⟨[(1, .val (.int .i64 n)), (8, .val (.slice b xs.length c)), (9, .val (.int .i64 xs.length)), (10, .val (.int .i64 i))], [], 1, μ1, Mem.nil⟩) (fun i => xs.length - i)
    0 ⟨by simp, by simp⟩ (fun _ => ⟨rfl, rfl⟩) ⟨⟨rfl, rfl, rfl, rfl, trivial⟩, trivial, rfl, rfl⟩ ?_
  rintro i ⟨hi, hall⟩
  refine ifd (fun hlt => ?_) (fun hlt => ?_)
  · obtain ⟨x, hx⟩ := at_some (l := xs) (i := i) (by omega)
    obtain ⟨ad, hel⟩ := Ints.elem hsl hx
    refine elem_intro hel ?_
    refine ifd (fun hge => ret_plain (isF fun hh => ?_)) (fun hge => ?_)
    · have := hh x ((g1 x).1 (mem_at hx)); omega
    refine num64 (by omega) (by omega) ⟨i + 1, ⟨by omega, fun y hy => ?_⟩, by omega, ⟨⟨rfl, rfl, rfl, rfl, trivial⟩, trivial, rfl, rfl⟩⟩
    rw [List.take_add_one, hx, Option.toList_some, List.mem_append, List.mem_singleton] at hy
    rcases hy with hy | rfl
    · exact hall y hy
    · omega
  · obtain rfl : i = xs.length := by omega
    rw [List.take_length] at hall
    exact ret_plain (isT fun m hm => hall m ((g1 m).2 hm))
end
end Go.Vx

/- Contracts: the laws' own functions on values of the type Rel: sizes, copies, equality, marks; what an argument reads. (By gen_types.py.) -/
namespace Go.Vx
open Go.Proofs Classical
structure Rl where
  name : ByteArray
  arity : Int
  locals : Int
  body : Gl
def Rl.d (x : Rl) : D := .st [.s x.name, .i x.arity, .i x.locals, x.body.d]
theorem Rl.d_eq (x : Rl) : x.d = .st [.s x.name, .i x.arity, .i x.locals, x.body.d] := rfl
theorem Rl.d_n (x : Rl) : x.d.n = 7 := by
  rw [Rl.d_eq]
  simp only [D.n, D.ns, Gl.d_n]
abbrev Rl.P := Gl.P
/-- The cells of a value. -/
def Rl.cs (x : Rl) (p : Rl.P) : List Value := [.string x.name, .int .i64 x.arity, .int .i64 x.locals, .int .i64 x.body.kind, .string x.body.name, .slice p.1.1 x.body.terms.length p.1.2, .slice p.2.1 x.body.goals.length p.2.2]
section
variable {μ : Mem}
def Rl.At (μ : Mem) (x : Rl) (p : Rl.P) : Prop := RepV μ x.body.d (.agg (x.body.cs p).toArray)
theorem Rl.invA {x : Rl} {cs : List Value} (h : Rep μ x.d cs) : ∃ p : Rl.P, cs = x.cs p ∧ Rl.At μ x p := by
  rw [Rl.d_eq] at h
  obtain ⟨a0, t0, rfl, h0, h⟩ := h
  have h0 : a0 = [.string x.name] := h0
  subst h0
  obtain ⟨a1, t1, rfl, h1, h⟩ := h
  have h1 : a1 = [.int .i64 x.arity] := h1
  subst h1
  obtain ⟨a2, t2, rfl, h2, h⟩ := h
  have h2 : a2 = [.int .i64 x.locals] := h2
  subst h2
  obtain ⟨a3, t3, rfl, h3, h⟩ := h
  obtain ⟨p3, rfl, r3⟩ := Gl.invR h3
  obtain rfl : t3 = [] := h
  exact ⟨p3, by simp [Rl.cs, Gl.cs], r3⟩
theorem Rl.rep {x : Rl} {cs : List Value} (h : Rep μ x.d cs) : RepV μ x.d (.agg cs.toArray) := by
  rw [Rl.d_eq] at h ⊢; exact ⟨cs, rfl, h⟩
theorem Rl.invR {x : Rl} {cs : List Value} (h : Rep μ x.d cs) : ∃ p : Rl.P, cs = x.cs p ∧ RepV μ x.d (.agg (x.cs p).toArray) := by
  obtain ⟨p, e, _⟩ := Rl.invA h
  subst e
  exact ⟨p, rfl, Rl.rep h⟩
theorem Rl.inv {x : Rl} {v : Value} (h : RepV μ x.d v) : ∃ p : Rl.P, v = .agg #[.string x.name, .int .i64 x.arity, .int .i64 x.locals, .int .i64 x.body.kind, .string x.body.name, .slice p.1.1 x.body.terms.length p.1.2, .slice p.2.1 x.body.goals.length p.2.2] ∧ Rl.At μ x p := by
  have h2 : ∃ cs, v = .agg (List.toArray cs) ∧ Rep μ x.d cs := by rw [Rl.d_eq] at h ⊢; exact h
  obtain ⟨cs, rfl, h3⟩ := h2
  obtain ⟨p, rfl, hA⟩ := Rl.invA h3
  exact ⟨p, rfl, hA⟩
theorem Rl.invV {x : Rl} {v : Value} (h : RepV μ x.d v) : ∃ p : Rl.P, v = .agg #[.string x.name, .int .i64 x.arity, .int .i64 x.locals, .int .i64 x.body.kind, .string x.body.name, .slice p.1.1 x.body.terms.length p.1.2, .slice p.2.1 x.body.goals.length p.2.2] := by
  obtain ⟨p, h, _⟩ := Rl.inv h
  exact ⟨p, h⟩
theorem Rl.elemA {l : List Rl} {base : Option Addr} {n : Nat} (h : Sl μ 7 base n (l.map Rl.d)) {i : Nat} {x : Rl} (hx : l[i]? = some x) : ∃ ad, ∃ p : Rl.P, ElemAt μ base n 7 i ad (x.cs p) ∧ RepV μ x.d (.agg (x.cs p).toArray) ∧ Rl.At μ x p := by
  obtain ⟨ad, cs, h1, h2⟩ := h.get i x.d (by simp [hx])
  obtain ⟨p, rfl, hA⟩ := Rl.invA h2
  exact ⟨ad, p, h1, Rl.rep h2, hA⟩
theorem Rl.elem {l : List Rl} {base : Option Addr} {n : Nat} (h : Sl μ 7 base n (l.map Rl.d)) {i : Nat} {x : Rl} (hx : l[i]? = some x) : ∃ ad, ∃ p : Rl.P, ElemAt μ base n 7 i ad (x.cs p) ∧ RepV μ x.d (.agg (x.cs p).toArray) := by
  obtain ⟨ad, p, h1, h2, _⟩ := Rl.elemA h hx
  exact ⟨ad, p, h1, h2⟩
theorem Rl.sz_eq (x : Rl) : x.d.sz = x.name.size + x.body.d.sz := by
  rw [Rl.d_eq]
  simp [D.sz, D.szs]
theorem szRel_spec (x : Rl) {v : Value} {left : Int} (hv : RepV μ x.d v) (hl : 0 ≤ left) (hl2 : left ≤ 1048576) (hw : x.d.wd) : Gives Try.prog 19 [v, .int .i64 left] μ (.int .i64 (szR left x.d.sz)) := by
  obtain ⟨p, rfl, hA⟩ := Rl.inv hv
  have hsz := Rl.sz_eq x
  rw [Rl.d_eq] at hw
  have m0 := maxLen_le hw.1
  refine Spec.mk Try.func19 (by kernel_rfl) ?_
  intro r
  refine num64 (by omega) (by omega) (ifd (fun h => ret_gives (by rw [szR_neg (by omega)]) rfl) (fun h => ?_))
  refine call_gives (szGoal_spec x.body hA (by omega) (by omega) hw.2.2.2.1) ?_
  refine ifd (fun h => ret_gives (by have := szR_lt h; rw [szR_neg (by omega)]) rfl) (fun h => ?_)
  have q3 := szR_ge h
  rw [szR_pos q3] at h ⊢
  refine ret_gives ?_ rfl
  rw [szR_pos (by omega)]
  first | rfl | (congr 1; omega)
theorem szRelS_of {l : List Rl} (he : ∀ t ∈ l, ∀ {v : Value} {left : Int}, RepV μ t.d v → 0 ≤ left → left ≤ 1048576 → t.d.wd → Gives Try.prog 19 [v, .int .i64 left] μ (.int .i64 (szR left t.d.sz)))
    {base : Option Addr} {cap : Nat} {left : Int} (hsl : Sl μ 7 base l.length (l.map Rl.d)) (hl : 0 ≤ left) (hl2 : left ≤ 1048576) (hw : D.wds (l.map Rl.d)) :
    Gives Try.prog 11 [.slice base l.length cap, .int .i64 left] μ (.int .i64 (szR left (l.length + D.szs (l.map Rl.d)))) := by
  have hn := maxLen_le hsl.max
  refine Spec.mk Try.func11 (by kernel_rfl) ?_
  refine num64 (by omega) (by omega) (ifd (fun h => ret_gives ?_ rfl) (fun h => ?_))
  · rw [szR_neg (by omega)]
  refine loop_intro (fun i : Nat => i ≤ l.length ∧ (D.szs ((l.map Rl.d).take i) : Int) ≤ left - l.length) (fun i => ⟨[(0, .val (.slice base l.length cap)), (1, .val (.int .i64 (left - l.length - D.szs ((l.map Rl.d).take i)))), (5, .val (.int .i64 i))], [], 0, μ, Mem.nil⟩) (fun i => l.length - i)
    0 ⟨by omega, by simp [D.szs]; omega⟩ (fun i => ⟨rfl, rfl⟩) ⟨⟨rfl, by show some (SV.val (.int .i64 _)) = some (SV.val (.int .i64 _)); congr 3; simp [D.szs], rfl, trivial⟩, trivial, rfl, rfl⟩ ?_
  rintro i ⟨hi, hz⟩
  refine ifd (fun h => ?_) (fun h => ?_)
  · obtain ⟨t, ht⟩ := at_some (l := l) (i := i) (by omega)
    have hx := at_map (f := Rl.d) ht
    have hs := D.szs_take hx
    have hs' := D.szs_le (l.map Rl.d) (i + 1)
    obtain ⟨ad, p, hel, hr⟩ := Rl.elem hsl ht
    refine elem_intro hel (call_gives (he t (mem_at ht) hr (by omega) (by omega) (D.wds_mem hw _ (mem_at hx))) ?_)
    refine ifd (fun h => ret_gives ?_ rfl) (fun h => ?_)
    · have := szR_lt h
      rw [szR_neg (by omega)]
    · have := szR_ge h
      refine num64 (by omega) (by omega) ⟨i + 1, ⟨by omega, by omega⟩, by omega, ⟨⟨rfl, ?_, rfl, trivial⟩, trivial, rfl, rfl⟩⟩
      rw [szR_pos this, hs]
      show some (SV.val (.int .i64 _)) = some (SV.val (.int .i64 _))
      congr 3; omega
  · obtain rfl : i = l.length := by omega
    rw [List.take_of_length_le (by simp)] at hz ⊢
    refine ret_gives ?_ rfl
    rw [szR_pos (by omega)]; congr 1; omega
theorem szRelS_spec {l : List Rl} {base : Option Addr} {cap : Nat} {left : Int} (hsl : Sl μ 7 base l.length (l.map Rl.d)) (hl : 0 ≤ left) (hl2 : left ≤ 1048576) (hw : D.wds (l.map Rl.d)) :
    Gives Try.prog 11 [.slice base l.length cap, .int .i64 left] μ (.int .i64 (szR left (l.length + D.szs (l.map Rl.d)))) := szRelS_of (fun t _ _ _ => szRel_spec t) hsl hl hl2 hw
set_option maxRecDepth 4000 in
theorem toRel_spec (x : Rl) {μ : Mem} {v : Value} (hv : RepV μ x.d v) (hb : x.d.sz ≤ 1048576) : Spec Try.prog 24 [v] μ fun v μ' => Fresh μ μ' x.d v := by
  obtain ⟨p, rfl, hA⟩ := Rl.inv hv
  have hsz := Rl.sz_eq x
  have A0 := hA
  refine Spec.mk Try.func24 (by kernel_rfl) ?_
  intro r1 r2 r3
  refine call_plain (toGoal_spec x.body A0 (by omega)) fun u0 μ0 hle0 hf0 => ?_
  obtain ⟨pp0, rfl⟩ := Gl.invV hf0.rep
  rw [Rl.d_eq]
  exact ret_plain (FreshS.st (FreshS.str (FreshS.int (FreshS.int (FreshS.cons hf0 hle0 (Mem.Le.refl _) (FreshS.nil))))))
theorem toRelS_of {l : List Rl} (he : ∀ t ∈ l, ∀ {μ : Mem} {v : Value}, RepV μ t.d v → t.d.sz ≤ 1048576 → Spec Try.prog 24 [v] μ fun v μ' => Fresh μ μ' t.d v)
    {base : Option Addr} {cap : Nat} (hsl : Sl μ 7 base l.length (l.map Rl.d)) (hb : l.length + D.szs (l.map Rl.d) ≤ 1048576) :
    Spec Try.prog 15 [.slice base l.length cap] μ fun v μ' => Fresh μ μ' (.sl 7 (l.map Rl.d)) v := by
  refine Spec.mk Try.func15 (by kernel_rfl) ?_
  refine make_intro l.length rfl rfl (by simp only; omega) (Nat.le_trans (m := 1048576) (by omega) (by decide)) ?_
  intro r
  refine loop_intro (fun p : Nat × List Value × Mem => μ.Le p.2.2 ∧ ∃ g, Filled 7 (.agg #[.string ⟨#[]⟩, .int .i64 0, .int .i64 0, .int .i64 0, .string ⟨#[]⟩, .slice none 0 0, .slice none 0 0]) μ p.2.2 (l.map Rl.d) p.1 p.2.1 g)
    (fun (i, xs, μ') => ⟨[(0, .val (.slice base l.length cap)), (3, .row 0 (some r) l.length l.length), (4, .val (.int .i64 i))], [(0, some (.row (some r) l.length 43 7 xs))], 1, μ', Mem.nil⟩) (fun p => l.length - p.1)
    (0, List.replicate l.length (.agg #[.string ⟨#[]⟩, .int .i64 0, .int .i64 0, .int .i64 0, .string ⟨#[]⟩, .slice none 0 0, .slice none 0 0]), μ) ⟨Mem.Le.refl μ, _, Filled.start (by simp)⟩ (fun (_, _, _) => ⟨rfl, rfl⟩) ⟨⟨rfl, rfl, rfl, trivial⟩, ⟨rfl, trivial⟩, rfl, rfl⟩ ?_
  rintro ⟨i, xs, μ'⟩ ⟨hle, g, hf⟩
  dsimp only at hle hf
  have hi := hf.le
  have hlen := hf.len
  rw [List.length_map] at hi hlen
  refine ifd (fun h => ?_) (fun h => ?_)
  · obtain ⟨t, ht⟩ := at_some (l := l) (i := i) (by omega)
    have hx := at_map (f := Rl.d) ht
    have hs := D.szs_mem hx
    obtain ⟨ad, p, hel, hr⟩ := Rl.elem (hsl.mono hle) ht
    refine elem_intro hel (call_plain (he t (mem_at ht) hr (by omega)) fun v μ'' hle2 hfr => ?_)
    obtain ⟨g', hf'⟩ := hf.step hx (Rl.d_n t) hfr hle2
    obtain ⟨p2, rfl⟩ := Rl.invV hfr.rep
    refine rel_intro i rfl (by omega) ?_
    refine get_intro _ (hf.rest i (by omega) (by simpa using h)) ?_
    refine num64 (by omega) (by omega) ⟨(i + 1, _, μ''), ⟨hle.trans hle2, g', hf'⟩, by dsimp only; omega, ⟨⟨rfl, rfl, rfl, trivial⟩, ⟨rfl, trivial⟩, rfl, rfl⟩⟩
  · obtain rfl : i = l.length := by omega
    refine ret_frz [0] fun μ2 hle2 hno hrow => .inl ?_
    have := Fresh.ofRow (hf.all (by simp)) hf.sub hf.new hle hle2 hno hrow (Nat.le_trans (m := 1048576) (by omega) (by decide))
    rw [hlen] at this
    exact this
theorem toRelS_spec {l : List Rl} {base : Option Addr} {cap : Nat} (hsl : Sl μ 7 base l.length (l.map Rl.d)) (hb : l.length + D.szs (l.map Rl.d) ≤ 1048576) :
    Spec Try.prog 15 [.slice base l.length cap] μ fun v μ' => Fresh μ μ' (.sl 7 (l.map Rl.d)) v := toRelS_of (fun t _ _ _ => toRel_spec t) hsl hb
theorem eqRel_spec (x : Rl) {v v' : Value} (hv : RepV μ x.d v) (hv' : RepV μ x.d v') : Gives Try.prog 28 [v, v'] μ (.bool true) := by
  obtain ⟨p, rfl, hA⟩ := Rl.inv hv
  obtain ⟨p', rfl, hB⟩ := Rl.inv hv'
  have A0 := hA
  have B0 := hB
  refine Spec.mk Try.func28 (by kernel_rfl) ?_
  intro r1 r2
  refine ifnd (fun h => absurd rfl h) (fun _ => ?_)
  refine ifnd (fun h => absurd rfl h) (fun _ => ?_)
  refine ifnd (fun h => absurd rfl h) (fun _ => ?_)
  refine call_gives (eqGoal_spec x.body A0 B0) ?_
  refine if_intro (fun h => nomatch h) (fun _ => ?_)
  exact ret_gives rfl rfl
theorem eqRelS_of {l : List Rl} (he : ∀ t ∈ l, ∀ {v v' : Value}, RepV μ t.d v → RepV μ t.d v' → Gives Try.prog 28 [v, v'] μ (.bool true))
    {base base' : Option Addr} {cap cap' : Nat} (hl : Sl μ 7 base l.length (l.map Rl.d)) (hl' : Sl μ 7 base' l.length (l.map Rl.d)) :
    Gives Try.prog 18 [.slice base l.length cap, .slice base' l.length cap'] μ (.bool true) := by
  have hn := maxLen_le hl.max
  refine Spec.mk Try.func18 (by kernel_rfl) ?_
  refine ifnd (fun h => absurd rfl h) (fun _ => ?_)
  refine loop_intro (fun i : Nat => i ≤ l.length) (fun i => ⟨[(0, .val (.slice base l.length cap)), (1, .val (.slice base' l.length cap')), (5, .val (.int .i64 i))], [], 0, μ, Mem.nil⟩) (fun i => l.length - i)
    0 (by omega) (fun i => ⟨rfl, rfl⟩) ⟨⟨rfl, rfl, rfl, trivial⟩, trivial, rfl, rfl⟩ ?_
  intro i hi
  refine ifd (fun h => ?_) (fun h => ?_)
  · obtain ⟨t, ht⟩ := at_some (l := l) (i := i) (by omega)
    obtain ⟨ad, p, hel, hr⟩ := Rl.elem hl ht
    obtain ⟨ad', p', hel', hr'⟩ := Rl.elem hl' ht
    refine elem_intro hel (elem_intro hel' (call_gives (he t (mem_at ht) hr hr') ?_))
    refine if_intro (fun h => nomatch h) (fun _ => ?_)
    exact num64 (by omega) (by omega) ⟨i + 1, by omega, by omega, ⟨⟨rfl, rfl, rfl, trivial⟩, trivial, rfl, rfl⟩⟩
  · exact ret_gives rfl rfl
theorem eqRelS_spec {l : List Rl} {base base' : Option Addr} {cap cap' : Nat} (hl : Sl μ 7 base l.length (l.map Rl.d)) (hl' : Sl μ 7 base' l.length (l.map Rl.d)) :
    Gives Try.prog 18 [.slice base l.length cap, .slice base' l.length cap'] μ (.bool true) := eqRelS_of (fun t _ _ _ => eqRel_spec t) hl hl'
theorem read_Rel : Reads Try.prog 57 fun d => ∃ x : Rl, d = x.d ∧ x.d.wd
  | 0 => ReadsTo.zero _
  | n + 1 => (reads_struct ti57 rfl (FieldsTo.cons ti9 (reads_str und_string n) (FieldsTo.cons ti3 (reads_int und_int n) (FieldsTo.cons ti3 (reads_int und_int n) (FieldsTo.cons ti55 (read_Goal n) FieldsTo.nil))))).weaken fun d h => by
    obtain ⟨ds, rfl, h⟩ := h
    obtain ⟨_, _, rfl, ⟨x0, rfl, w0⟩, q0⟩ := h.cons
    obtain ⟨_, _, rfl, ⟨x1, rfl, w1⟩, q1⟩ := q0.cons
    obtain ⟨_, _, rfl, ⟨x2, rfl, w2⟩, q2⟩ := q1.cons
    obtain ⟨_, _, rfl, ⟨x3, rfl, w3⟩, q3⟩ := q2.cons
    obtain rfl := q3.nil
    refine ⟨.mk x0 x1 x2 x3, (Rl.d_eq (.mk x0 x1 x2 x3)).symm, ?_⟩
    rw [Rl.d_eq]
    exact ⟨w0, w1, w2, w3, trivial⟩
theorem read_RelS : Reads Try.prog 22 fun d => ∃ l : List Rl, d = .sl 7 (l.map Rl.d) ∧ D.wds (l.map Rl.d) := fun n =>
  (reads_sl ti22.kind (cellsOf_tt ti57) (fun d h => by obtain ⟨a, rfl, _⟩ := h; exact Rl.d_n a) read_Rel n).weaken fun d h => by
    obtain ⟨xs, rfl, hx⟩ := h
    obtain ⟨l, rfl⟩ := lift_list (f := Rl.d) fun x h => by obtain ⟨t, h, _⟩ := hx x h; exact ⟨t, h⟩
    exact ⟨l, rfl, D.wds_of fun x hm => by obtain ⟨t, rfl, h⟩ := hx x hm; exact h⟩
end
end Go.Vx

/- Contracts: the laws' own functions on values of the type Program: sizes, copies, equality, marks; what an argument reads. (By gen_types.py.) -/
namespace Go.Vx
open Go.Proofs Classical
structure Pg where
  rels : List Rl
def Pg.d (x : Pg) : D := .st [.sl 7 (x.rels.map Rl.d)]
theorem Pg.d_eq (x : Pg) : x.d = .st [.sl 7 (x.rels.map Rl.d)] := rfl
theorem Pg.d_n (x : Pg) : x.d.n = 1 := by
  rw [Pg.d_eq]
  simp only [D.n, D.ns]
abbrev Pg.P := (Option Addr × Nat)
/-- The cells of a value. -/
def Pg.cs (x : Pg) (p : Pg.P) : List Value := [.slice p.1 x.rels.length p.2]
section
variable {μ : Mem}
def Pg.At (μ : Mem) (x : Pg) (p : Pg.P) : Prop := Sl μ 7 p.1 x.rels.length (x.rels.map Rl.d)
theorem Pg.invA {x : Pg} {cs : List Value} (h : Rep μ x.d cs) : ∃ p : Pg.P, cs = x.cs p ∧ Pg.At μ x p := by
  rw [Pg.d_eq] at h
  obtain ⟨a0, t0, rfl, h0, h⟩ := h
  obtain ⟨v0, rfl⟩ := one_of (Rep.len _ _ h0)
  obtain ⟨b0, c0, rfl, s0⟩ := Rep.sl h0
  rw [List.length_map] at s0
  obtain rfl : t0 = [] := h
  exact ⟨(b0, c0), by simp [Pg.cs], s0⟩
theorem Pg.rep {x : Pg} {cs : List Value} (h : Rep μ x.d cs) : RepV μ x.d (.agg cs.toArray) := by
  rw [Pg.d_eq] at h ⊢; exact ⟨cs, rfl, h⟩
theorem Pg.invR {x : Pg} {cs : List Value} (h : Rep μ x.d cs) : ∃ p : Pg.P, cs = x.cs p ∧ RepV μ x.d (.agg (x.cs p).toArray) := by
  obtain ⟨p, e, _⟩ := Pg.invA h
  subst e
  exact ⟨p, rfl, Pg.rep h⟩
theorem Pg.inv {x : Pg} {v : Value} (h : RepV μ x.d v) : ∃ p : Pg.P, v = .agg #[.slice p.1 x.rels.length p.2] ∧ Pg.At μ x p := by
  have h2 : ∃ cs, v = .agg (List.toArray cs) ∧ Rep μ x.d cs := by rw [Pg.d_eq] at h ⊢; exact h
  obtain ⟨cs, rfl, h3⟩ := h2
  obtain ⟨p, rfl, hA⟩ := Pg.invA h3
  exact ⟨p, rfl, hA⟩
theorem Pg.invV {x : Pg} {v : Value} (h : RepV μ x.d v) : ∃ p : Pg.P, v = .agg #[.slice p.1 x.rels.length p.2] := by
  obtain ⟨p, h, _⟩ := Pg.inv h
  exact ⟨p, h⟩
theorem Pg.elemA {l : List Pg} {base : Option Addr} {n : Nat} (h : Sl μ 1 base n (l.map Pg.d)) {i : Nat} {x : Pg} (hx : l[i]? = some x) : ∃ ad, ∃ p : Pg.P, ElemAt μ base n 1 i ad (x.cs p) ∧ RepV μ x.d (.agg (x.cs p).toArray) ∧ Pg.At μ x p := by
  obtain ⟨ad, cs, h1, h2⟩ := h.get i x.d (by simp [hx])
  obtain ⟨p, rfl, hA⟩ := Pg.invA h2
  exact ⟨ad, p, h1, Pg.rep h2, hA⟩
theorem Pg.elem {l : List Pg} {base : Option Addr} {n : Nat} (h : Sl μ 1 base n (l.map Pg.d)) {i : Nat} {x : Pg} (hx : l[i]? = some x) : ∃ ad, ∃ p : Pg.P, ElemAt μ base n 1 i ad (x.cs p) ∧ RepV μ x.d (.agg (x.cs p).toArray) := by
  obtain ⟨ad, p, h1, h2, _⟩ := Pg.elemA h hx
  exact ⟨ad, p, h1, h2⟩
theorem Pg.sz_eq (x : Pg) : x.d.sz = (x.rels.length + D.szs (x.rels.map Rl.d)) := by
  rw [Pg.d_eq]
  simp [D.sz, D.szs]
theorem szProgram_spec (x : Pg) {v : Value} {left : Int} (hv : RepV μ x.d v) (hl : 0 ≤ left) (hl2 : left ≤ 1048576) (hw : x.d.wd) : Gives Try.prog 4 [v, .int .i64 left] μ (.int .i64 (szR left x.d.sz)) := by
  obtain ⟨p, rfl, hA⟩ := Pg.inv hv
  have hsz := Pg.sz_eq x
  rw [Pg.d_eq] at hw
  refine Spec.mk Try.func4 (by kernel_rfl) ?_
  intro r
  refine call_gives (szRelS_spec hA (by omega) (by omega) hw.1) ?_
  refine ifd (fun h => ret_gives (by have := szR_lt h; rw [szR_neg (by omega)]) rfl) (fun h => ?_)
  have q0 := szR_ge h
  rw [szR_pos q0] at h ⊢
  refine ret_gives ?_ rfl
  rw [szR_pos (by omega)]
  first | rfl | (congr 1; omega)
set_option maxRecDepth 4000 in
theorem toProgram_spec (x : Pg) {μ : Mem} {v : Value} (hv : RepV μ x.d v) (hb : x.d.sz ≤ 1048576) : Spec Try.prog 6 [v] μ fun v μ' => Fresh μ μ' x.d v := by
  obtain ⟨p, rfl, hA⟩ := Pg.inv hv
  have hsz := Pg.sz_eq x
  have A0 := hA
  refine Spec.mk Try.func6 (by kernel_rfl) ?_
  intro r1 r2 r3
  refine call_plain (toRelS_spec A0 (by omega)) fun u0 μ0 hle0 hf0 => ?_
  obtain ⟨bb0, cc0, rfl, _⟩ := Rep.sl hf0.rep
  rw [Pg.d_eq]
  exact ret_plain (FreshS.st (FreshS.cons hf0 hle0 (Mem.Le.refl _) (FreshS.nil)))
theorem eqProgram_spec (x : Pg) {v v' : Value} (hv : RepV μ x.d v) (hv' : RepV μ x.d v') : Gives Try.prog 9 [v, v'] μ (.bool true) := by
  obtain ⟨p, rfl, hA⟩ := Pg.inv hv
  obtain ⟨p', rfl, hB⟩ := Pg.inv hv'
  have A0 := hA
  have B0 := hB
  refine Spec.mk Try.func9 (by kernel_rfl) ?_
  intro r1 r2
  refine call_gives (eqRelS_spec A0 B0) ?_
  refine if_intro (fun h => nomatch h) (fun _ => ?_)
  exact ret_gives rfl rfl
theorem read_Program : Reads Try.prog 24 fun d => ∃ x : Pg, d = x.d ∧ x.d.wd
  | 0 => ReadsTo.zero _
  | n + 1 => (reads_struct ti24 rfl (FieldsTo.cons ti22 (read_RelS n) FieldsTo.nil)).weaken fun d h => by
    obtain ⟨ds, rfl, h⟩ := h
    obtain ⟨_, _, rfl, ⟨x0, rfl, w0⟩, q0⟩ := h.cons
    obtain rfl := q0.nil
    refine ⟨.mk x0, (Pg.d_eq (.mk x0)).symm, ?_⟩
    rw [Pg.d_eq]
    exact ⟨w0, trivial⟩
end
end Go.Vx

/- Contracts: relations of a program, calls that fit. -/
namespace Go.Vx
open Go.Proofs Classical
noncomputable def relFrom : List Rl → Nat → ByteArray → Int
  | [], _, _ => -1
  | r :: l, i, s => if r.name = s then i else relFrom l (i + 1) s
noncomputable def relAt (p : Pg) (s : ByteArray) : Int := relFrom p.rels 0 s
theorem relFrom_some {s : ByteArray} : ∀ {l : List Rl} {i : Nat}, 0 ≤ relFrom l i s → ∃ (j : Nat) (r : Rl), relFrom l i s = ((i + j : Nat) : Int) ∧ l[j]? = some r ∧ r.name = s
  | [], i, h => by simp [relFrom] at h
  | r :: l, i, h => by
    rw [relFrom] at h ⊢
    by_cases e : r.name = s
    · rw [if_pos e]; exact ⟨0, r, by simp, rfl, e⟩
    · rw [if_neg e] at h ⊢
      obtain ⟨j, r', h1, h2, h3⟩ := relFrom_some h
      exact ⟨j + 1, r', by rw [h1]; congr 1; omega, h2, h3⟩
/-- A call that fits the program. -/
def CallFits (p : Pg) (g : Gl) : Prop := g.kind = 9 → ∃ (i : Nat) (r : Rl), relAt p g.name = i ∧ p.rels[i]? = some r ∧ r.arity = g.terms.length
section
variable {μ : Mem}
theorem relation_spec {p : Pg} {s : ByteArray} {v : Value} (hv : RepV μ p.d v) : Gives Try.prog 37 [v, .string s] μ (.int .i64 (relAt p s)) := by
  obtain ⟨q, rfl, hsl⟩ := Pg.inv hv
  have hn := maxLen_le hsl.max
  refine Spec.mk Try.func37 (by kernel_rfl) ?_
  intro r
  refine loop_intro (fun i : Nat => i ≤ p.rels.length ∧ relFrom (p.rels.drop i) i s = relAt p s) (fun i => ⟨[(1, .val (.string s)), (8, .val (.slice q.1 p.rels.length q.2)), (9, .val (.int .i64 p.rels.length)), (10, .val (.int .i64 i))], [], 1, μ, Mem.nil⟩) (fun i => p.rels.length - i)
    0 ⟨by omega, rfl⟩ (fun _ => ⟨rfl, rfl⟩) ⟨⟨rfl, rfl, rfl, rfl, trivial⟩, trivial, rfl, rfl⟩ ?_
  rintro i ⟨hi, hJ⟩
  refine ifd (fun hlt => ?_) (fun hlt => ?_)
  · obtain ⟨x, hx⟩ := at_some (l := p.rels) (i := i) (by omega)
    obtain ⟨ad, q2, hel, hr⟩ := Rl.elem hsl hx
    rw [drop_at hx, relFrom] at hJ
    refine elem_intro hel ?_
    intro r2
    refine ifd (fun e => ?_) (fun e => ?_)
    · rw [if_pos e] at hJ
      exact ret_gives (by rw [← hJ]) rfl
    · rw [if_neg e] at hJ
      exact num64 (by omega) (by omega) ⟨i + 1, ⟨by omega, hJ⟩, by omega, ⟨⟨rfl, rfl, rfl, rfl, trivial⟩, trivial, rfl, rfl⟩⟩
  · obtain rfl : i = p.rels.length := by omega
    rw [List.drop_length] at hJ
    exact ret_gives (by rw [← hJ]; rfl) rfl
theorem l14Find_spec {p : Pg} {s : ByteArray} {v : Value} (hv : RepV μ p.d v) : Gives Try.prog 45 [v, .string s] μ (.int .i64 (relAt p s)) := by
  obtain ⟨q, rfl, hsl⟩ := Pg.inv hv
  have hn := maxLen_le hsl.max
  refine Spec.mk Try.func45 (by kernel_rfl) ?_
  intro r
  refine loop_intro (fun i : Nat => i ≤ p.rels.length ∧ relFrom (p.rels.drop i) i s = relAt p s) (fun i => ⟨[(1, .val (.string s)), (8, .val (.slice q.1 p.rels.length q.2)), (9, .val (.int .i64 p.rels.length)), (10, .val (.int .i64 i))], [], 1, μ, Mem.nil⟩) (fun i => p.rels.length - i)
    0 ⟨by omega, rfl⟩ (fun _ => ⟨rfl, rfl⟩) ⟨⟨rfl, rfl, rfl, rfl, trivial⟩, trivial, rfl, rfl⟩ ?_
  rintro i ⟨hi, hJ⟩
  refine ifd (fun hlt => ?_) (fun hlt => ?_)
  · obtain ⟨x, hx⟩ := at_some (l := p.rels) (i := i) (by omega)
    obtain ⟨ad, q2, hel, hr⟩ := Rl.elem hsl hx
    rw [drop_at hx, relFrom] at hJ
    refine elem_intro hel ?_
    intro r2
    refine ifd (fun e => ?_) (fun e => ?_)
    · rw [if_pos e] at hJ
      exact ret_gives (by rw [← hJ]) rfl
    · rw [if_neg e] at hJ
      exact num64 (by omega) (by omega) ⟨i + 1, ⟨by omega, hJ⟩, by omega, ⟨⟨rfl, rfl, rfl, rfl, trivial⟩, trivial, rfl, rfl⟩⟩
  · obtain rfl : i = p.rels.length := by omega
    rw [List.drop_length] at hJ
    exact ret_gives (by rw [← hJ]; rfl) rfl
theorem relAt_some {p : Pg} {s : ByteArray} (h : 0 ≤ relAt p s) : ∃ (j : Nat) (r : Rl), relAt p s = (j : Int) ∧ p.rels[j]? = some r := by
  obtain ⟨j, r, h1, h2, h3⟩ := relFrom_some h
  exact ⟨j, r, by rw [relAt, h1]; simp, h2⟩
theorem callFits_iff {p : Pg} {g : Gl} (h9 : g.kind = 9) {j : Nat} {r : Rl} (e : relAt p g.name = (j : Int)) (hr : p.rels[j]? = some r) : CallFits p g ↔ r.arity = g.terms.length := by
  constructor
  · intro h
    obtain ⟨i, r', h1, h2, h3⟩ := h h9
    rw [e] at h1
    obtain rfl : j = i := by omega
    rw [hr] at h2; cases h2
    exact h3
  · intro h _
    exact ⟨j, r, e, hr, h⟩
theorem callFits_neg {p : Pg} {g : Gl} (h9 : g.kind = 9) (h : ¬ 0 ≤ relAt p g.name) : ¬ CallFits p g := fun k => by
  obtain ⟨i, r', h1, _, _⟩ := k h9
  omega
/-- All calls in a goal fit. -/
inductive FitAll (p : Pg) : Gl → Prop
  | mk {g : Gl} (top : CallFits p g) (sub : ∀ x ∈ g.goals, FitAll p x) : FitAll p g
theorem FitAll.top {p : Pg} {g : Gl} (h : FitAll p g) : CallFits p g := by cases h; assumption
theorem FitAll.sub {p : Pg} {g : Gl} (h : FitAll p g) : ∀ x ∈ g.goals, FitAll p x := by cases h; assumption
theorem l14Calls_spec {p : Pg} {vp : Value} (hp : RepV μ p.d vp) : ∀ (g : Gl) {v : Value}, g.Sh → RepV μ g.d v → Gives Try.prog 64 [vp, v] μ (.bool (decide (FitAll p g))) := by
  obtain ⟨q, rfl, hrl⟩ := Pg.inv hp
  refine Gl.ind fun g ih v hS hv => ?_
  obtain ⟨q2, rfl, hts, hgs⟩ := Gl.inv hv
  have hn := maxLen_le hgs.max
  refine Spec.mk Try.func64 (by kernel_rfl) ?_
  intro r1 r2
  refine ifd (fun h9 => ?_) (fun h9 => ?_)
  · have hg0 : g.goals = [] := List.eq_nil_of_length_eq_zero (hS.top.gl0 (.inr h9))
    have hiff : FitAll p g ↔ CallFits p g := ⟨fun h => h.top, fun h => .mk h (by rw [hg0]; simp)⟩
    refine call_gives (l14Find_spec hp) ?_
    refine ifd (fun h0 => ?_) (fun h0 => ret_gives (isF fun h => callFits_neg h9 h0 h.top) rfl)
    obtain ⟨j, rl, e, hr⟩ := relAt_some h0
    obtain ⟨ad, q3, hel, hrr⟩ := Rl.elem hrl hr
    rw [e]
    refine elem_intro hel ?_
    exact ret_gives (isI ((callFits_iff h9 e hr).symm.trans hiff.symm)) rfl
  · refine loop_intro (fun i : Nat => i ≤ g.goals.length ∧ ∀ x ∈ g.goals.take i, FitAll p x) (fun i => ⟨[(2, .loc 0 r1 0), (30, .val (.slice q2.2.1 g.goals.length q2.2.2)), (31, .val (.int .i64 g.goals.length)), (32, .val (.int .i64 i))], [(0, some (.cells r1 [.val (.slice q.1 p.rels.length q.2)] 30))], 2, μ, Mem.nil⟩) (fun i => g.goals.length - i)
      0 ⟨by omega, by simp⟩ (fun _ => ⟨rfl, rfl⟩) ⟨⟨rfl, rfl, rfl, rfl, trivial⟩, ⟨rfl, trivial⟩, rfl, rfl⟩ ?_
    rintro i ⟨hi, hall⟩
    refine ifd (fun hlt => ?_) (fun hlt => ?_)
    · obtain ⟨t, ht⟩ := at_some (l := g.goals) (i := i) (by omega)
      obtain ⟨ad, q3, hel, hr⟩ := Gl.elem hgs ht
      refine elem_intro hel ?_
      intro r3
      refine call_gives (ih t (mem_at ht) (hS.sub t (mem_at ht)) hr) ?_
      refine ifnd (fun h => ret_gives (isF fun S => h (S.sub t (mem_at ht))) rfl) (fun h => ?_)
      refine num64 (by omega) (by omega) ⟨i + 1, ⟨by omega, fun x hx => ?_⟩, by omega, ⟨⟨rfl, rfl, rfl, rfl, trivial⟩, ⟨rfl, trivial⟩, rfl, rfl⟩⟩
      rw [List.take_add_one, ht, Option.toList_some, List.mem_append, List.mem_singleton] at hx
      rcases hx with hx | rfl
      · exact hall x hx
      · exact h
    · obtain rfl : i = g.goals.length := by omega
      rw [List.take_length] at hall
      exact ret_gives (isT (.mk (fun h => absurd h h9) hall)) rfl
end
end Go.Vx

/- Contracts: calls that fit, the program's side. -/
namespace Go.Vx
open Go.Proofs Classical
theorem FitAll.all {p : Pg} : ∀ {g : Gl}, FitAll p g → ∀ x ∈ g.all, CallFits p x := fun {g} => by
  refine Gl.ind (q := fun g => FitAll p g → ∀ x ∈ g.all, CallFits p x) (fun g ih h x hx => ?_) g
  rw [Gl.all_eq] at hx
  rcases List.mem_cons.1 hx with rfl | hx
  · exact h.top
  · obtain ⟨y, hy, hx⟩ := List.mem_flatMap.1 hx
    exact ih y hy (h.sub y hy) x hx
theorem FitAll.of {p : Pg} : ∀ {g : Gl}, (∀ x ∈ g.all, CallFits p x) → FitAll p g := fun {g} => by
  refine Gl.ind (q := fun g => (∀ x ∈ g.all, CallFits p x) → FitAll p g) (fun g ih h => ?_) g
  rw [Gl.all_eq] at h
  exact .mk (h g (by simp)) fun y hy => ih y hy fun x hx => h x (List.mem_cons_of_mem _ (List.mem_flatMap.2 ⟨y, hy, hx⟩))
theorem foldl_and {α : Type} (f : α → Prop) : ∀ (l : List α) (b : Bool), l.foldl (fun b x => b && decide (f x)) b = (b && decide (∀ x ∈ l, f x))
  | [], b => by simp
  | a :: l, b => by
    rw [List.foldl_cons, foldl_and f l, Bool.and_assoc]
    congr 1
    by_cases h : f a
    · simp [h]
    · simp [h]
section
variable {μ : Mem}
theorem callsFit1_spec {p : Pg} {q : Pg.P} {rp rf : Nat} {b : Bool} {h : Mem} {g : Gl} {v : Value} (hp : RepV μ p.d (.agg #[.slice q.1 p.rels.length q.2])) (hrl : Sl μ 7 q.1 p.rels.length (p.rels.map Rl.d)) (hat : μ rp = some (.cells #[.slice q.1 p.rels.length q.2] 30 (0, 0)))
    (hv : RepV μ g.d v) (hf : h rf = some (.cells #[.bool b] 4 (0, 0))) :
    SpecH Try.prog 57 [v, .pointer (some ⟨rp, 0, none⟩), .pointer (some ⟨rf, 0, none⟩)] μ h fun r μ' h' => r = .tuple #[] ∧ μ' = μ ∧ h' rf = some (.cells #[.bool (b && decide (CallFits p g))] 4 (0, 0)) := by
  obtain ⟨q2, rfl, hts, hgs⟩ := Gl.inv hv
  refine SpecH.mk [] Try.func57 (by kernel_rfl) ?_
  intro r
  refine ifd (fun h9 => ?_) (fun h9 => ?_)
  rotate_left
  · have : CallFits p g := fun k => absurd k h9
    exact ret_plain ⟨rfl, rfl, by rw [decide_eq_true this, Bool.and_true]; exact hf⟩
  refine ext_intro [.slice q.1 p.rels.length q.2] rfl (box_at hat) ?_
  refine call_gives (relation_spec hp) ?_
  refine ifd (fun h0 => ?_) (fun h0 => ?_)
  · have : ¬ CallFits p g := callFits_neg h9 (by omega)
    refine sto_intro [.bool b] 4 hf rfl (Nat.le_refl _) ?_
    exact ret_plain ⟨rfl, rfl, by rw [decide_eq_false this, Bool.and_false]; exact Mem.set_at _ _ _⟩
  · obtain ⟨j, rl, e, hr⟩ := relAt_some (Int.not_lt.1 h0)
    obtain ⟨ad, q3, hel, hrr⟩ := Rl.elem hrl hr
    have hiff := callFits_iff h9 e hr
    refine ext_intro [.slice q.1 p.rels.length q.2] rfl (fun j v hj => by show μ.cell (((⟨rp, 0, none⟩ : Addr).add 0).add j) = some v; rw [add_add, Nat.zero_add]; exact box_at hat j v hj) ?_
    rw [e]
    refine elem_intro hel ?_
    refine ifnd (fun hne => ?_) (fun heq => ?_)
    · have : ¬ CallFits p g := fun k => hne (hiff.1 k)
      refine sto_intro [.bool b] 4 hf rfl (Nat.le_refl _) ?_
      exact ret_plain ⟨rfl, rfl, by rw [decide_eq_false this, Bool.and_false]; exact Mem.set_at _ _ _⟩
    · have : CallFits p g := hiff.2 heq
      exact ret_plain ⟨rfl, rfl, by rw [decide_eq_true this, Bool.and_true]; exact hf⟩
theorem callsFit_spec {p : Pg} {vp v : Value} {g : Gl} (hp : RepV μ p.d vp) (hv : RepV μ g.d v) : Spec Try.prog 40 [vp, v] μ fun r _ => r = .bool (decide (FitAll p g)) := by
  obtain ⟨q, rfl, hrl⟩ := Pg.inv hp
  obtain ⟨q2, rfl⟩ := Gl.invV hv
  refine Spec.mkO [5] Try.func40 (by kernel_rfl) ?_
  intro r1 r2
  intro rf hmf hof
  refine sto_intro [.bool false] 4 (Mem.set_at _ _ _) rfl (Nat.le_refl _) ?_
  generalize hh : Mem.set (Mem.set _ rf _) rf _ = h0
  have hf0 : h0 rf = some (.cells #[.bool true] 4 (0, 0)) := by subst hh; rw [Mem.set_at]; rfl
  refine call_gen [0] [] (fun _ => rfl) ?_
  intro μ1 hle1 hno1 hat1
  refine own_go (eachGoal_rel (fun b h => h rf = some (.cells #[.bool b] 4 (0, 0))) (fun b x => b && decide (CallFits p x)) (fun _ => True) (fun b h x w _ hw hj => callsFit1_spec (hp.mono hle1) (hrl.mono hle1) hat1 hw hj) g true h0 (hv.mono hle1) (fun _ _ => trivial) hf0) fun v μ2 h' hle hap hR => ?_
  obtain ⟨rfl, e2, hj⟩ := hR
  obtain rfl := e2.symm
  rw [foldl_and, Bool.true_and] at hj
  refine own_intro [.bool _] rfl (box_at hj) ?_
  exact ret_plain (isI ⟨fun h => FitAll.of h, fun h => h.all⟩)
end
end Go.Vx

/- Contracts: well-formed programs, the program's side. -/
namespace Go.Vx
open Go.Proofs Classical
structure RelOk (p : Pg) (i : Nat) (r : Rl) : Prop where
  at_ : relAt p r.name = i
  name : IsRel r.name
  ar0 : 0 ≤ r.arity
  ar4 : r.arity ≤ 4
  lo0 : 0 ≤ r.locals
  lo8 : r.locals ≤ 8
  body : r.body.Sh
  size : r.body.cnt ≤ 60
  vars : ∀ n ∈ r.body.vars, n < r.arity + r.locals
  calls : FitAll p r.body
def Pg.Ok (p : Pg) : Prop := p.rels.length ≤ 8 ∧ ∀ (i : Nat) (r : Rl), p.rels[i]? = some r → RelOk p i r
section
variable {μ : Mem}
theorem impl_ProgramOk_spec {p : Pg} {v : Value} (hp : RepV μ p.d v) : Spec Try.prog 25 [v] μ fun r _ => r = .bool (decide p.Ok) := by
  obtain ⟨q, rfl, hrl⟩ := Pg.inv hp
  refine Spec.mk Try.func25 (by kernel_rfl) ?_
  intro r1
  refine ifd (fun h8 => ret_plain (isF fun h => by have := h.1; omega)) (fun h8 => ?_)
  refine loop_intro (fun x : Nat × Mem => x.1 ≤ p.rels.length ∧ μ.Le x.2 ∧ ∀ (j : Nat) (r : Rl), j < x.1 → p.rels[j]? = some r → RelOk p j r)
    (fun (i, μ') => ⟨[(1, .loc 0 r1 0), (10, .val (.slice q.1 p.rels.length q.2)), (11, .val (.int .i64 p.rels.length)), (12, .val (.int .i64 i))], [(0, some (.cells r1 [.val (.slice q.1 p.rels.length q.2)] 30))], 1, μ', Mem.nil⟩) (fun x => p.rels.length - x.1)
    (0, μ) ⟨by simp, Mem.Le.refl _, fun j r hj => by simp at hj⟩ (fun (_, _) => ⟨rfl, rfl⟩) ⟨⟨rfl, rfl, rfl, rfl, trivial⟩, ⟨rfl, trivial⟩, rfl, rfl⟩ ?_
  rintro ⟨i, μ'⟩ ⟨hi, hle, hall⟩
  dsimp only at hi hle hall
  refine ifd (fun hlt => ?_) (fun hlt => ?_)
  · obtain ⟨x, hx⟩ := at_some (l := p.rels) (i := i) (by omega)
    obtain ⟨ad, q2, hel, hr, hb⟩ := Rl.elemA (hrl.mono hle) hx
    have hb : RepV μ' x.body.d (.agg (x.body.cs q2).toArray) := hb
    have bad : ¬ RelOk p i x → Value.bool false = .bool (decide p.Ok) := fun h => isF fun k => h (k.2 i x hx)
    refine elem_intro hel ?_
    intro r2
    refine call_gives (impl_IsRelName_spec _ _) ?_
    refine ifnd (fun h => ret_plain (bad fun k => h k.name)) (fun g1 => ?_)
    refine call_gives (relation_spec (hp.mono hle)) ?_
    refine ifnd (fun h => ret_plain (bad fun k => h k.at_)) (fun g2 => ?_)
    refine ifd (fun h => ret_plain (bad fun k => by have := k.ar0; omega)) (fun g3 => ?_)
    refine ifd (fun h => ret_plain (bad fun k => by have := k.ar4; omega)) (fun g4 => ?_)
    refine ifd (fun h => ret_plain (bad fun k => by have := k.lo0; omega)) (fun g5 => ?_)
    refine ifd (fun h => ret_plain (bad fun k => by have := k.lo8; omega)) (fun g6 => ?_)
    refine call_gives (goalNodes_spec x.body hb (by decide) (by decide)) ?_
    refine ifd (fun h => ret_plain (bad fun k => Gl.nodes_lt h ⟨k.body, by have := k.size; omega⟩)) (fun h => ?_)
    obtain ⟨g7, g8, _⟩ := Gl.nodes_ge h
    refine num64 (by omega) (by omega) ?_
    refine call_plain (varsBelow_spec g7 hb) fun v1 μ1 hle1 hR => ?_
    obtain rfl := hR
    refine ifnd (fun h => ret_plain (bad fun k => h k.vars)) (fun g9 => ?_)
    refine call_plain (callsFit_spec ((hp.mono hle).mono hle1) (hb.mono hle1)) fun v2 μ2 hle2 hR => ?_
    obtain rfl := hR
    refine ifnd (fun h => ret_plain (bad fun k => h k.calls)) (fun g10 => ?_)
    have hok : RelOk p i x := ⟨g2, g1, by omega, by omega, by omega, by omega, g7, by omega, g9, g10⟩
    refine num64 (by omega) (by omega) ⟨(i + 1, μ2), ⟨by dsimp only; omega, (hle.trans hle1).trans hle2, fun j r hj hr => ?_⟩, by dsimp only; omega, ⟨⟨rfl, rfl, rfl, rfl, trivial⟩, ⟨rfl, trivial⟩, rfl, rfl⟩⟩
    rcases Nat.lt_or_ge j i with h6 | h6
    · exact hall j r h6 hr
    · obtain rfl : j = i := by omega
      rw [hx] at hr; cases hr; exact hok
  · obtain rfl : i = p.rels.length := by omega
    exact ret_plain (isT ⟨by omega, fun j r hr => hall j r (List.getElem?_eq_some_iff.1 hr).1 hr⟩)
/-- How many nodes a goal has; none if it is not well-formed. -/
noncomputable def Gl.count (g : Gl) : Int := if g.Ok then g.cnt else 0
theorem spec_GoalSize_spec (g : Gl) {v : Value} (hv : RepV μ g.d v) (hw : g.d.wd) : Gives Try.prog 48 [v] μ (.int .i64 g.count) := by
  obtain ⟨p, rfl⟩ := Gl.invV hv
  refine Spec.mk Try.func48 (by kernel_rfl) ?_
  intro r
  refine call_gives (spec_GoalOk_spec g hv hw) ?_
  refine ifnd (fun h => ret_gives (by rw [Gl.count, if_neg h]) rfl) (fun h => ?_)
  refine call_gives (l13Count_spec g hv (by decide) (by decide)) ?_
  refine ret_gives ?_ rfl
  congr 1
  have := h.2
  have := g.cnt_pos
  rw [Gl.count, if_pos h, upTo]
  omega
end
end Go.Vx

/- Contracts: the reference's lists of variables, sorted; goals that fit. -/
namespace Go.Vx
open Go.Proofs Classical
theorem ins_sorted {l : List Int} {n : Int} {k : Nat} (hs : l.Pairwise (· < ·)) (h1 : ∀ y ∈ l.take k, y < n) (h2 : ∀ y ∈ l.drop k, n < y) : (insInt l n k).Pairwise (· < ·) := by
  unfold insInt
  rw [List.pairwise_append]
  refine ⟨hs.sublist (List.take_sublist _ _), ?_, ?_⟩
  · rw [List.singleton_append, List.pairwise_cons]
    exact ⟨h2, hs.sublist (List.drop_sublist _ _)⟩
  · intro a ha b hb
    rcases List.mem_append.1 hb with hb | hb
    · rw [List.mem_singleton] at hb; subst hb; exact h1 a ha
    · have := h1 a ha; have := h2 b hb; omega
theorem srt_get {l : List Int} (hs : l.Pairwise (· < ·)) {i j : Nat} {x y : Int} (h : i < j) (hx : l[i]? = some x) (hy : l[j]? = some y) : x < y := by
  obtain ⟨h1, rfl⟩ := List.getElem?_eq_some_iff.1 hx
  obtain ⟨h2, rfl⟩ := List.getElem?_eq_some_iff.1 hy
  exact List.pairwise_iff_getElem.1 hs i j h1 h2 h
theorem take_lt {l : List Int} (hs : l.Pairwise (· < ·)) {k : Nat} {n : Int} (h : k = 0 ∨ ∃ x, l[k - 1]? = some x ∧ x < n) : ∀ y ∈ l.take k, y < n := fun y hy => by
  obtain ⟨i, hi⟩ := List.mem_iff_getElem?.1 hy
  rw [List.getElem?_take] at hi
  split at hi
  · rename_i hik
    rcases h with rfl | ⟨x, hx, hxn⟩
    · omega
    · rcases Nat.lt_or_ge i (k - 1) with h1 | h1
      · have := srt_get hs h1 hi hx; omega
      · obtain rfl : i = k - 1 := by omega
        rw [hx] at hi; cases hi; exact hxn
  · cases hi
theorem drop_gt {l : List Int} (hs : l.Pairwise (· < ·)) {k : Nat} {n : Int} (h : ∀ (j : Nat) y, k ≤ j → l[j]? = some y → n ≤ y) (hne : ∀ y, l[k]? = some y → y ≠ n) : ∀ y ∈ l.drop k, n < y := fun y hy => by
  obtain ⟨i, hi⟩ := List.mem_iff_getElem?.1 hy
  rw [List.getElem?_drop] at hi
  have h1 := h (k + i) y (by omega) hi
  rcases Nat.eq_zero_or_pos i with rfl | h2
  · have := hne y (by simpa using hi)
    omega
  · have hk : k < l.length := by have := (List.getElem?_eq_some_iff.1 hi).1; omega
    have hkk : l[k]? = some l[k] := List.getElem?_eq_getElem hk
    have h3 := h k _ (Nat.le_refl _) hkk
    have := srt_get hs (by omega : k < k + i) hkk hi
    omega
section
variable {μ : Mem}
theorem l02InsertS_spec {l : List Int} {v : Value} {n : Int} (hv : RepV μ (.sl 1 (l.map D.i)) v) (hb : l.length ≤ 1000000000) (hs : l.Pairwise (· < ·)) : Spec Try.prog 81 [v, .int .i64 n] μ fun v μ' => ∃ r : List Int, RepV μ' (.sl 1 (r.map D.i)) v ∧ (∀ x, x ∈ r ↔ x = n ∨ x ∈ l) ∧ r.Pairwise (· < ·) := by
  obtain ⟨base, cap, rfl, hsl⟩ := Rep.sl hv
  have hcap := Rep.lens hv
  rw [List.length_map] at hsl hcap hv ⊢
  refine Spec.mk Try.func81 (by kernel_rfl) ?_
  refine loop_intro (fun k : Nat => k ≤ l.length ∧ ∀ (j : Nat) y, k ≤ j → l[j]? = some y → n ≤ y) (fun k => ⟨[(0, .val (.slice base l.length cap)), (1, .val (.int .i64 n)), (5, .val (.int .i64 k))], [], 0, μ, Mem.nil⟩) (fun k => k)
    l.length ⟨Nat.le_refl _, fun j y hj hy => absurd (List.getElem?_eq_some_iff.1 hy).1 (by omega)⟩ (fun i => ⟨rfl, rfl⟩) ⟨⟨rfl, rfl, rfl, trivial⟩, trivial, rfl, rfl⟩ ?_
  rintro k ⟨hk, hge⟩
  refine ifd (fun h1 => ?_) (fun h1 => ?_)
  · obtain ⟨x, hx⟩ := at_some (l := l) (i := k - 1) (by omega)
    obtain ⟨ad, hel⟩ := Ints.elem hsl hx
    refine num_eq (x := ((k - 1 : Nat) : Int)) (by rw [wrap64 (by omega) (by omega)]; omega) ?_
    refine elem_intro hel ?_
    refine ifd (fun h2 => ?_) (fun h2 => ?_)
    · refine num_eq (x := ((k - 1 : Nat) : Int)) (by rw [wrap64 (by omega) (by omega)]; omega) ⟨k - 1, ⟨by omega, fun j y hj hy => ?_⟩, by omega, ⟨⟨rfl, rfl, rfl, trivial⟩, trivial, rfl, rfl⟩⟩
      rcases Nat.lt_or_ge j k with h3 | h3
      · obtain rfl : j = k - 1 := by omega
        rw [hx] at hy; cases hy; exact h2
      · exact hge j y h3 hy
    · have htk := take_lt hs (k := k) (n := n) (.inr ⟨x, hx, by omega⟩)
      refine ifd (fun h3 => ?_) (fun h3 => ?_)
      · obtain ⟨y, hy⟩ := at_some (l := l) (i := k) (by omega)
        obtain ⟨ad2, hel2⟩ := Ints.elem hsl hy
        refine elem_intro hel2 ?_
        refine ifd (fun h4 => ret_plain ⟨l, hv, fun x => ⟨.inr, fun hx => hx.elim (fun e => by rw [e, ← h4]; exact mem_at hy) id⟩, hs⟩) (fun h4 => ?_)
        have hgt := drop_gt hs hge (fun z hz => by rw [hy] at hz; cases hz; exact h4)
        intro r0
        refine cut_intro 0 k rfl rfl (by omega) (by omega) ?_
        refine src_intro _ (Ints.src hsl (a := 0) (b := k) (by omega) hk hcap) ?_
        refine grow_intro ?_ ?_ fun b1 c1 _ => ?_
        · show (0 + (ints _).length) * 8 ≤ _; simp [ints]; omega
        · show 0 + (ints _).length ≤ 9223372036854775807; simp [ints]; omega
        intro r1
        refine grow_intro ?_ ?_ fun b2 c2 _ => ?_
        · show (([] ++ ints _).length + 1) * 8 ≤ _; simp [ints]; omega
        · show ([] ++ ints _).length + 1 ≤ 9223372036854775807; simp [ints]; omega
        refine cut_intro k l.length rfl rfl hk (by omega) ?_
        refine src_intro _ (Ints.src hsl (a := k) (b := l.length) hk (Nat.le_refl _) hcap) ?_
        refine grow_intro ?_ ?_ fun b3 c3 _ => ?_
        · show (([] ++ ints _ ++ [_]).length + (ints _).length) * 8 ≤ _; simp [ints]; omega
        · show ([] ++ ints _ ++ [_]).length + (ints _).length ≤ 9223372036854775807; simp [ints]; omega
        refine ret_frz [0] fun μ' hle hno hrow => .inl ⟨insInt l n k, ?_, insInt_mem l n k, ins_sorted hs htk hgt⟩
        have e : [] ++ ints ((l.drop 0).take (k - 0)) ++ [.int .i64 n] ++ ints ((l.drop k).take (l.length - k)) = ints (insInt l n k) := by
          simp [ints, insInt]
          rw [List.take_of_length_le (by simp)]
        rw [e] at hrow ⊢
        exact Ints.sl hrow (Nat.le_trans (m := 2000000000) (by simp [insInt]; omega) (by decide))
      · have hgt := drop_gt hs hge (fun z hz => by have := (List.getElem?_eq_some_iff.1 hz).1; omega)
        intro r0
        refine cut_intro 0 k rfl rfl (by omega) (by omega) ?_
        refine src_intro _ (Ints.src hsl (a := 0) (b := k) (by omega) hk hcap) ?_
        refine grow_intro ?_ ?_ fun b1 c1 _ => ?_
        · show (0 + (ints _).length) * 8 ≤ _; simp [ints]; omega
        · show 0 + (ints _).length ≤ 9223372036854775807; simp [ints]; omega
        intro r1
        refine grow_intro ?_ ?_ fun b2 c2 _ => ?_
        · show (([] ++ ints _).length + 1) * 8 ≤ _; simp [ints]; omega
        · show ([] ++ ints _).length + 1 ≤ 9223372036854775807; simp [ints]; omega
        refine cut_intro k l.length rfl rfl hk (by omega) ?_
        refine src_intro _ (Ints.src hsl (a := k) (b := l.length) hk (Nat.le_refl _) hcap) ?_
        refine grow_intro ?_ ?_ fun b3 c3 _ => ?_
        · show (([] ++ ints _ ++ [_]).length + (ints _).length) * 8 ≤ _; simp [ints]; omega
        · show ([] ++ ints _ ++ [_]).length + (ints _).length ≤ 9223372036854775807; simp [ints]; omega
        refine ret_frz [0] fun μ' hle hno hrow => .inl ⟨insInt l n k, ?_, insInt_mem l n k, ins_sorted hs htk hgt⟩
        have e : [] ++ ints ((l.drop 0).take (k - 0)) ++ [.int .i64 n] ++ ints ((l.drop k).take (l.length - k)) = ints (insInt l n k) := by
          simp [ints, insInt]
          rw [List.take_of_length_le (by simp)]
        rw [e] at hrow ⊢
        exact Ints.sl hrow (Nat.le_trans (m := 2000000000) (by simp [insInt]; omega) (by decide))
  · have htk := take_lt hs (k := k) (n := n) (.inl (by omega))
    refine ifd (fun h3 => ?_) (fun h3 => ?_)
    · obtain ⟨y, hy⟩ := at_some (l := l) (i := k) (by omega)
      obtain ⟨ad2, hel2⟩ := Ints.elem hsl hy
      refine elem_intro hel2 ?_
      refine ifd (fun h4 => ret_plain ⟨l, hv, fun x => ⟨.inr, fun hx => hx.elim (fun e => by rw [e, ← h4]; exact mem_at hy) id⟩, hs⟩) (fun h4 => ?_)
      have hgt := drop_gt hs hge (fun z hz => by rw [hy] at hz; cases hz; exact h4)
      intro r0
      refine cut_intro 0 k rfl rfl (by omega) (by omega) ?_
      refine src_intro _ (Ints.src hsl (a := 0) (b := k) (by omega) hk hcap) ?_
      refine grow_intro ?_ ?_ fun b1 c1 _ => ?_
      · show (0 + (ints _).length) * 8 ≤ _; simp [ints]; omega
      · show 0 + (ints _).length ≤ 9223372036854775807; simp [ints]; omega
      intro r1
      refine grow_intro ?_ ?_ fun b2 c2 _ => ?_
      · show (([] ++ ints _).length + 1) * 8 ≤ _; simp [ints]; omega
      · show ([] ++ ints _).length + 1 ≤ 9223372036854775807; simp [ints]; omega
      refine cut_intro k l.length rfl rfl hk (by omega) ?_
      refine src_intro _ (Ints.src hsl (a := k) (b := l.length) hk (Nat.le_refl _) hcap) ?_
      refine grow_intro ?_ ?_ fun b3 c3 _ => ?_
      · show (([] ++ ints _ ++ [_]).length + (ints _).length) * 8 ≤ _; simp [ints]; omega
      · show ([] ++ ints _ ++ [_]).length + (ints _).length ≤ 9223372036854775807; simp [ints]; omega
      refine ret_frz [0] fun μ' hle hno hrow => .inl ⟨insInt l n k, ?_, insInt_mem l n k, ins_sorted hs htk hgt⟩
      have e : [] ++ ints ((l.drop 0).take (k - 0)) ++ [.int .i64 n] ++ ints ((l.drop k).take (l.length - k)) = ints (insInt l n k) := by
        simp [ints, insInt]
        rw [List.take_of_length_le (by simp)]
      rw [e] at hrow ⊢
      exact Ints.sl hrow (Nat.le_trans (m := 2000000000) (by simp [insInt]; omega) (by decide))
    · have hgt := drop_gt hs hge (fun z hz => by have := (List.getElem?_eq_some_iff.1 hz).1; omega)
      intro r0
      refine cut_intro 0 k rfl rfl (by omega) (by omega) ?_
      refine src_intro _ (Ints.src hsl (a := 0) (b := k) (by omega) hk hcap) ?_
      refine grow_intro ?_ ?_ fun b1 c1 _ => ?_
      · show (0 + (ints _).length) * 8 ≤ _; simp [ints]; omega
      · show 0 + (ints _).length ≤ 9223372036854775807; simp [ints]; omega
      intro r1
      refine grow_intro ?_ ?_ fun b2 c2 _ => ?_
      · show (([] ++ ints _).length + 1) * 8 ≤ _; simp [ints]; omega
      · show ([] ++ ints _).length + 1 ≤ 9223372036854775807; simp [ints]; omega
      refine cut_intro k l.length rfl rfl hk (by omega) ?_
      refine src_intro _ (Ints.src hsl (a := k) (b := l.length) hk (Nat.le_refl _) hcap) ?_
      refine grow_intro ?_ ?_ fun b3 c3 _ => ?_
      · show (([] ++ ints _ ++ [_]).length + (ints _).length) * 8 ≤ _; simp [ints]; omega
      · show ([] ++ ints _ ++ [_]).length + (ints _).length ≤ 9223372036854775807; simp [ints]; omega
      refine ret_frz [0] fun μ' hle hno hrow => .inl ⟨insInt l n k, ?_, insInt_mem l n k, ins_sorted hs htk hgt⟩
      have e : [] ++ ints ((l.drop 0).take (k - 0)) ++ [.int .i64 n] ++ ints ((l.drop k).take (l.length - k)) = ints (insInt l n k) := by
        simp [ints, insInt]
        rw [List.take_of_length_le (by simp)]
      rw [e] at hrow ⊢
      exact Ints.sl hrow (Nat.le_trans (m := 2000000000) (by simp [insInt]; omega) (by decide))
/-- A list of variables: sorted, in range. -/
structure VL (l : List Int) : Prop where
  srt : l.Pairwise (· < ·)
  rng : ∀ x ∈ l, 0 ≤ x ∧ x ≤ 100000
theorem VL.len {l : List Int} (h : VL l) : l.length ≤ 100001 := by
  refine nodup_range (N := 100001) ?_ fun n hn => by have := h.rng n hn; omega
  rw [List.nodup_iff_pairwise_ne]
  exact h.srt.imp fun hab e => by omega
def VarsS (μ' : Mem) (l vs : List Int) (v : Value) : Prop := ∃ r : List Int, RepV μ' (.sl 1 (r.map D.i)) v ∧ (∀ x, x ∈ r ↔ x ∈ vs ∨ x ∈ l) ∧ VL r
theorem l02VarsS_spec : ∀ (x : T) {μ : Mem} {l : List Int} {w v : Value}, x.good → RepV μ x.tm.d w → RepV μ (.sl 1 (l.map D.i)) v → VL l → Spec Try.prog 76 [w, v] μ fun v μ' => VarsS μ' l x.vars v :=
  T.ind fun x ih μ l w v hgd hw hv hb => by
    have hrng := T.vars_range hgd
    obtain ⟨base, cap, rfl, hsl⟩ := T.inv hw
    have hn := maxLen_le hsl.max
    refine Spec.mk Try.func76 (by kernel_rfl) ?_
    intro r
    refine ifd (fun h => ?_) (fun h => ?_)
    · have e : x.vars = [x.tm.num] := by cases x <;> simp_all [T.vars, T.tm, Tm.kind, Tm.num]
      refine call_plain (l02InsertS_spec hv (by have := hb.len; omega) hb.srt) fun v' μ' hle hR => ret_plain ?_
      obtain ⟨r, h1, h2, h3⟩ := hR
      refine ⟨r, h1, by simpa [e] using h2, h3, fun y hy => ?_⟩
      rcases (h2 y).1 hy with rfl | hy
      · exact hrng _ (by rw [e]; simp)
      · exact hb.rng y hy
    have e := T.vars_args h
    have hgs : ∀ y ∈ x.args, y.good := fun y hy => by
      cases x with
      | pair a b =>
        simp only [T.args, List.mem_cons, List.not_mem_nil, or_false] at hy
        rcases hy with rfl | rfl
        · exact hgd.1
        · exact hgd.2
      | _ => simp [T.args] at hy
    refine loop_intro (fun p : Nat × Value × Mem => p.1 ≤ x.args.length ∧ μ.Le p.2.2 ∧ VarsS p.2.2 l ((x.args.take p.1).flatMap T.vars) p.2.1)
      (fun (i, v, μ') => ⟨[(1, .val v), (15, .val (.slice base x.args.length cap)), (16, .val (.int .i64 x.args.length)), (17, .val (.int .i64 i))], [], 1, μ', Mem.nil⟩) (fun p => x.args.length - p.1)
      (0, v, μ) ⟨by simp, Mem.Le.refl μ, l, hv, by simp, hb⟩ (fun (_, _, _) => ⟨rfl, rfl⟩) ⟨⟨rfl, rfl, rfl, rfl, trivial⟩, trivial, rfl, rfl⟩ ?_
    rintro ⟨i, v, μ'⟩ ⟨hi, hle, r, h1, h2, h3⟩
    dsimp only at hi hle h1 h2 h3
    refine ifd (fun h => ?_) (fun h => ?_)
    · obtain ⟨t, ht⟩ := at_some (l := x.args) (i := i) (by omega)
      have ht' : (x.args.map T.tm)[i]? = some t.tm := by simp [ht]
      obtain ⟨ad, p, hel, hr⟩ := Tm.elem (hsl.mono hle) ht'
      have hsucc : (x.args.take (i + 1)).flatMap T.vars = (x.args.take i).flatMap T.vars ++ t.vars := by
        rw [List.take_add_one, ht, Option.toList_some, List.flatMap_append]; simp
      refine elem_intro hel ?_
      intro r2
      refine call_plain (ih t (mem_at ht) (hgs t (mem_at ht)) hr h1 h3) fun v' μ'' hle2 hR => ?_
      obtain ⟨q, g1, g2, g3⟩ := hR
      refine num64 (by omega) (by omega) ⟨(i + 1, v', μ''), ⟨by dsimp only; omega, hle.trans hle2, q, g1, fun y => ?_, g3⟩, by dsimp only; omega, ⟨⟨rfl, rfl, rfl, rfl, trivial⟩, trivial, rfl, rfl⟩⟩
      dsimp only
      rw [g2, h2, hsucc, List.mem_append]
      constructor
      · rintro (h | h | h) <;> simp [h]
      · rintro ((h | h) | h) <;> simp [h]
    · obtain rfl : i = x.args.length := by omega
      rw [List.take_length] at h2
      exact ret_plain ⟨r, h1, by rw [e]; exact h2, h3⟩
end
end Go.Vx

/- Contracts: well-formed programs, the reference's side; goals counted. -/
namespace Go.Vx
open Go.Proofs Classical
theorem Gl.vars_eq (g : Gl) : g.vars = g.tvars ++ g.goals.flatMap Gl.vars := by
  rw [Gl.vars, Gl.all_eq, List.flatMap_cons, List.flatMap_assoc]
  rfl
section
variable {μ : Mem}
theorem l13Vars_spec : ∀ (g : Gl) {μ : Mem} {l : List Int} {w v : Value}, g.Sh → RepV μ g.d w → RepV μ (.sl 1 (l.map D.i)) v → VL l → Spec Try.prog 65 [w, v] μ fun v μ' => VarsS μ' l g.vars v :=
  Gl.ind fun g ih μ l w v hS hw hv hb => by
    obtain ⟨p, rfl, hts, hgs⟩ := Gl.inv hw
    obtain ⟨xs, hxs, hxo⟩ := lift_ok hS.top.tm
    have htv : g.tvars = xs.flatMap T.vars := by rw [Gl.tvars, hxs, toTs_tm']
    rw [hxs, List.length_map] at hts ⊢
    have hn := maxLen_le hts.max
    have hn2 := maxLen_le hgs.max
    refine Spec.mk Try.func65 (by kernel_rfl) ?_
    intro r1
    refine loop_intro (fun p : Nat × Value × Mem => p.1 ≤ xs.length ∧ μ.Le p.2.2 ∧ VarsS p.2.2 l ((xs.take p.1).flatMap T.vars) p.2.1)
      (fun (i, v, μ') => ⟨[(1, .val v), (2, .loc 0 r1 0), (10, .val (.slice p.1.1 xs.length p.1.2)), (11, .val (.int .i64 xs.length)), (12, .val (.int .i64 i))], [(0, some (.cells r1 [.val (.int .i64 g.kind), .val (.string g.name), .val (.slice p.1.1 xs.length p.1.2), .val (.slice p.2.1 g.goals.length p.2.2)] 41))], 1, μ', Mem.nil⟩) (fun p => xs.length - p.1)
      (0, v, μ) ⟨by simp, Mem.Le.refl μ, l, hv, by simp, hb⟩ (fun (_, _, _) => ⟨rfl, rfl⟩) ⟨⟨rfl, rfl, rfl, rfl, rfl, trivial⟩, ⟨rfl, trivial⟩, rfl, rfl⟩ ?_
    rintro ⟨i, v, μ'⟩ ⟨hi, hle, r, h1, h2, h3⟩
    dsimp only at hi hle h1 h2 h3
    refine ifd (fun h => ?_) (fun h => ?_)
    · obtain ⟨t, ht⟩ := at_some (l := xs) (i := i) (by omega)
      obtain ⟨ad, p3, hel, hr⟩ := Tm.elem (i := i) (t := t.tm) (hts.mono hle) (by simp [ht])
      have hsucc : (xs.take (i + 1)).flatMap T.vars = (xs.take i).flatMap T.vars ++ t.vars := by
        rw [List.take_add_one, ht, Option.toList_some, List.flatMap_append]; simp
      refine elem_intro hel ?_
      intro r2
      refine call_plain (l02VarsS_spec t (hxo t (mem_at ht)).1 hr h1 h3) fun v' μ'' hle2 hR => ?_
      obtain ⟨q, g1, g2, g3⟩ := hR
      refine num64 (by omega) (by omega) ⟨(i + 1, v', μ''), ⟨by dsimp only; omega, hle.trans hle2, q, g1, fun y => ?_, g3⟩, by dsimp only; omega, ⟨⟨rfl, rfl, rfl, rfl, rfl, trivial⟩, ⟨rfl, trivial⟩, rfl, rfl⟩⟩
      dsimp only
      rw [g2, h2, hsucc, List.mem_append]
      constructor
      · rintro (h | h | h) <;> simp [h]
      · rintro ((h | h) | h) <;> simp [h]
    · obtain rfl : i = xs.length := by omega
      rw [List.take_length] at h2
      have hgs1 := hgs.mono hle
      refine loop_intro (fun x : Nat × Value × Mem => x.1 ≤ g.goals.length ∧ μ'.Le x.2.2 ∧ VarsS x.2.2 l (g.tvars ++ (g.goals.take x.1).flatMap Gl.vars) x.2.1)
        (fun (i, v, μ'') => ⟨[(1, .val v), (21, .val (.slice p.2.1 g.goals.length p.2.2)), (22, .val (.int .i64 g.goals.length)), (23, .val (.int .i64 i))], [], 1, μ'', Mem.nil⟩) (fun x => g.goals.length - x.1)
        (0, v, μ') ⟨by simp, Mem.Le.refl μ', r, h1, by simpa [htv] using h2, h3⟩ (fun (_, _, _) => ⟨rfl, rfl⟩) ⟨⟨rfl, rfl, rfl, rfl, trivial⟩, trivial, rfl, rfl⟩ ?_
      rintro ⟨i, v2, μ2⟩ ⟨hi, hle2, r2, k1, k2, k3⟩
      dsimp only at hi hle2 k1 k2 k3
      refine ifd (fun h => ?_) (fun h => ?_)
      · obtain ⟨t, ht⟩ := at_some (l := g.goals) (i := i) (by omega)
        obtain ⟨ad, p3, hel, hr⟩ := Gl.elem (hgs1.mono hle2) ht
        have hsucc : (g.goals.take (i + 1)).flatMap Gl.vars = (g.goals.take i).flatMap Gl.vars ++ t.vars := by
          rw [List.take_add_one, ht, Option.toList_some, List.flatMap_append]; simp
        refine elem_intro hel ?_
        intro r3
        refine call_plain (ih t (mem_at ht) (hS.sub t (mem_at ht)) hr k1 k3) fun v' μ3 hle3 hR => ?_
        obtain ⟨q, g1, g2, g3⟩ := hR
        refine num64 (by omega) (by omega) ⟨(i + 1, v', μ3), ⟨by dsimp only; omega, hle2.trans hle3, q, g1, fun y => ?_, g3⟩, by dsimp only; omega, ⟨⟨rfl, rfl, rfl, rfl, trivial⟩, trivial, rfl, rfl⟩⟩
        dsimp only
        rw [g2, k2, hsucc, ← List.append_assoc, List.mem_append (s := g.tvars ++ _)]
        constructor
        · rintro (h | h | h) <;> simp [h]
        · rintro ((h | h) | h) <;> simp [h]
      · obtain rfl : i = g.goals.length := by omega
        rw [List.take_length, ← Gl.vars_eq] at k2
        exact ret_plain ⟨r2, k1, k2, k3⟩
theorem VL.last {l : List Int} (h : VL l) {n x : Int} (hx : l[l.length - 1]? = some x) : (∀ y ∈ l, y < n) ↔ x < n := by
  constructor
  · intro k; exact k x (List.mem_of_getElem? hx)
  · intro k y hy
    obtain ⟨i, hi⟩ := List.mem_iff_getElem?.1 hy
    have hil := (List.getElem?_eq_some_iff.1 hi).1
    rcases Nat.lt_or_ge i (l.length - 1) with h1 | h1
    · have := srt_get h.srt h1 hi hx; omega
    · obtain rfl : i = l.length - 1 := by omega
      rw [hx] at hi; cases hi; exact k
def Fits (p : Pg) (g : Gl) (n : Int) : Prop := g.Ok ∧ FitAll p g ∧ ∀ m ∈ g.vars, m < n
theorem l14Fits_spec {p : Pg} {g : Gl} {n : Int} {vp v : Value} (hp : RepV μ p.d vp) (hv : RepV μ g.d v) (hw : g.d.wd) : Spec Try.prog 47 [vp, v, .int .i64 n] μ fun r _ => r = .bool (decide (Fits p g n)) := by
  obtain ⟨q, rfl, hrl⟩ := Pg.inv hp
  obtain ⟨q2, rfl⟩ := Gl.invV hv
  refine Spec.mk Try.func47 (by kernel_rfl) ?_
  intro r1 r2
  refine call_gives (spec_GoalOk_spec g hv hw) ?_
  refine ifnd (fun h => ret_plain (isF fun k => h k.1)) (fun h1 => ?_)
  refine call_gives (l14Calls_spec hp g h1.1 hv) ?_
  refine ifnd (fun h => ret_plain (isF fun k => h k.2.1)) (fun h2 => ?_)
  refine call_plain (l13Vars_spec (l := []) (v := .slice none 0 0) g h1.1 hv ⟨none, 0, rfl, ⟨Nat.zero_le _, Nat.zero_le _⟩, by simp, .inl rfl⟩ ⟨List.Pairwise.nil, by simp⟩) fun v1 μ1 hle1 hR => ?_
  obtain ⟨r, g1, g2, g3⟩ := hR
  obtain ⟨b, c, rfl, hsl⟩ := Rep.sl g1
  rw [List.length_map] at hsl ⊢
  have hlen := g3.len
  have hmem : ∀ x, x ∈ r ↔ x ∈ g.vars := fun x => by rw [g2]; simp
  refine ifd (fun h => ret_plain (isT ⟨h1, h2, fun m hm => ?_⟩)) (fun h => ?_)
  · have h3 : r = [] := List.eq_nil_of_length_eq_zero (by omega)
    have := (hmem m).2 hm
    rw [h3] at this; simp at this
  · obtain ⟨x, hx⟩ := at_some (l := r) (i := r.length - 1) (by omega)
    obtain ⟨ad, hel⟩ := Ints.elem hsl hx
    refine num_eq (x := ((r.length - 1 : Nat) : Int)) (by rw [wrap64 (by omega) (by omega)]; omega) ?_
    refine elem_intro hel ?_
    refine ret_plain (isI ⟨fun k => ⟨h1, h2, fun m hm => ((VL.last g3 hx).2 k) m ((hmem m).2 hm)⟩, fun k => (VL.last g3 hx).1 fun y hy => k.2.2 y ((hmem y).1 hy)⟩)
end
end Go.Vx

/- Contracts: well-formed programs, the reference's side; goals counted. -/
namespace Go.Vx
open Go.Proofs Classical
section
variable {μ : Mem}
theorem spec_ProgramOk_spec {p : Pg} {v : Value} (hp : RepV μ p.d v) (hw : p.d.wd) : Spec Try.prog 30 [v] μ fun r _ => r = .bool (decide p.Ok) := by
  obtain ⟨q, rfl, hrl⟩ := Pg.inv hp
  have hws : D.wds (p.rels.map Rl.d) := by rw [Pg.d_eq] at hw; exact hw.1
  refine Spec.mk Try.func30 (by kernel_rfl) ?_
  intro r1
  refine ifd (fun h8 => ret_plain (isF fun h => by have := h.1; omega)) (fun h8 => ?_)
  refine loop_intro (fun x : Nat × Mem => x.1 ≤ p.rels.length ∧ μ.Le x.2 ∧ ∀ (j : Nat) (r : Rl), j < x.1 → p.rels[j]? = some r → RelOk p j r)
    (fun (i, μ') => ⟨[(1, .loc 0 r1 0), (10, .val (.slice q.1 p.rels.length q.2)), (11, .val (.int .i64 p.rels.length)), (12, .val (.int .i64 i))], [(0, some (.cells r1 [.val (.slice q.1 p.rels.length q.2)] 30))], 1, μ', Mem.nil⟩) (fun x => p.rels.length - x.1)
    (0, μ) ⟨by simp, Mem.Le.refl _, fun j r hj => by simp at hj⟩ (fun (_, _) => ⟨rfl, rfl⟩) ⟨⟨rfl, rfl, rfl, rfl, trivial⟩, ⟨rfl, trivial⟩, rfl, rfl⟩ ?_
  rintro ⟨i, μ'⟩ ⟨hi, hle, hall⟩
  dsimp only at hi hle hall
  refine ifd (fun hlt => ?_) (fun hlt => ?_)
  · obtain ⟨x, hx⟩ := at_some (l := p.rels) (i := i) (by omega)
    obtain ⟨ad, q2, hel, hr, hb⟩ := Rl.elemA (hrl.mono hle) hx
    have hb : RepV μ' x.body.d (.agg (x.body.cs q2).toArray) := hb
    have hxw : x.d.wd := D.wds_mem hws _ (mem_at (at_map (f := Rl.d) hx))
    rw [Rl.d_eq] at hxw
    have hnm : x.name.size ≤ maxLen := hxw.1
    have hbw : x.body.d.wd := hxw.2.2.2.1
    have bad : ¬ RelOk p i x → Value.bool false = .bool (decide p.Ok) := fun h => isF fun k => h (k.2 i x hx)
    refine elem_intro hel ?_
    intro r2
    refine call_gives (l14Find_spec (hp.mono hle)) ?_
    refine ifnd (fun h => ret_plain (bad fun k => h k.at_)) (fun g2 => ?_)
    refine call_gives (spec_IsRelName_spec _ hnm _) ?_
    refine ifnd (fun h => ret_plain (bad fun k => h k.name)) (fun g1 => ?_)
    refine call_gives (l01In_spec _ _ _ _) ?_
    refine ifnd (fun h => ret_plain (bad fun k => h ⟨k.ar0, k.ar4⟩)) (fun g3 => ?_)
    refine call_gives (l01In_spec _ _ _ _) ?_
    refine ifnd (fun h => ret_plain (bad fun k => h ⟨k.lo0, k.lo8⟩)) (fun g4 => ?_)
    refine num64 (by omega) (by omega) ?_
    refine call_plain (l14Fits_spec (hp.mono hle) hb hbw) fun v1 μ1 hle1 hR => ?_
    obtain rfl := hR
    refine ifnd (fun h => ret_plain (bad fun k => h ⟨⟨k.body, by have := k.size; omega⟩, k.calls, k.vars⟩)) (fun g5 => ?_)
    refine call_gives (spec_GoalSize_spec x.body (hb.mono hle1) hbw) ?_
    have hc : x.body.count = x.body.cnt := by rw [Gl.count, if_pos g5.1]
    refine ifd (fun h => ret_plain (bad fun k => by have := k.size; omega)) (fun g6 => ?_)
    have hok : RelOk p i x := ⟨g2, g1, by omega, by omega, by omega, by omega, g5.1.1, by omega, g5.2.2, g5.2.1⟩
    refine num64 (by omega) (by omega) ⟨(i + 1, μ1), ⟨by dsimp only; omega, hle.trans hle1, fun j r hj hr => ?_⟩, by dsimp only; omega, ⟨⟨rfl, rfl, rfl, rfl, trivial⟩, ⟨rfl, trivial⟩, rfl, rfl⟩⟩
    rcases Nat.lt_or_ge j i with h6 | h6
    · exact hall j r h6 hr
    · obtain rfl : j = i := by omega
      rw [hx] at hr; cases hr; exact hok
  · obtain rfl : i = p.rels.length := by omega
    exact ret_plain (isT ⟨by omega, fun j r hr => hall j r (List.getElem?_eq_some_iff.1 hr).1 hr⟩)
end
end Go.Vx

