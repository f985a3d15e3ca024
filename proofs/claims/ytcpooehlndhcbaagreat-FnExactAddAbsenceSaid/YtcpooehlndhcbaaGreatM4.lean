/- Texts of the proof, part 4. -/
import Derived.Orders
import Derived.Below
import Derived.WalkKit
import Derived.MapKept
import Derived.WideKeyMaps
import Derived.Maps.RangeRun
import Derived.Laws.Cover3
import Derived.Laws.IdiomStrings
import Derived.Laws.BytesString
import Derived.Deep.RegionHeld3
import Derived.Carry
import Derived.ChangeArms
import Derived.RowKit3
import Derived.Test.YtcpooehlndhcbaaGreatChecked
import Derived.KernelRfl
import Derived.ProofKit
import Derived.OpenShut
import Derived.ChangeOld
import Derived.Handed
import Derived.JoinedOf
import Derived.Sort.AssemblyPlain
import Derived.DeepKeys3
import Derived.Lib.ReflectliteSwap
import Derived.Test.YtcpooehlndhcbaaGreatM3
/- Contracts: a few steps of insertion, by the owner's functions. -/
namespace Go.Vx
open Go.Proofs Classical
open Go.Sort
section
variable {α : Type} [Inhabited α] {lf sf : FuncId} {lb sb : List Value} {n : Nat} {lt : α → α → Bool} {μ0 : Mem} {J : Array α → Mem} {V : Array α → Prop} {μ : Mem} {d : Array α}
set_option maxHeartbeats 8000000 in
theorem partialInsertionSortF_spec (H : SortBy lf sf lb sb n lt μ0 J V) {a b : Nat} (hle : μ0.Le μ) (hV : V d) (ha : a < b) (hb : b ≤ n) :
    SpecH Tryz.prog 274 [fdata lf sf lb sb, .int .i64 a, .int .i64 b] μ (J d) fun v μ' h' => v = .bool (partialInsertionSort lt d a b).2 ∧ μ' = μ ∧ h' = J (partialInsertionSort lt d a b).1 ∧ V (partialInsertionSort lt d a b).1 := by
  have hn := H.max
  refine SpecH.mk [] Tryz.func274 (by kernel_rfl) ?_
  intro r1
  rw [partialInsertionSort]
  generalize hR : partialIns lt a b 5 (a + 1) d = R
  refine num_eq (x := ((a + 1 : Nat) : Int)) (by rw [wrap64 (by omega) (by omega)]; omega) ?_
  refine loop_intro (fun p : Nat × Nat × Array α => p.1 ≤ 5 ∧ a < p.2.1 ∧ p.2.1 ≤ b ∧ V p.2.2 ∧ partialIns lt a b p.1 p.2.1 p.2.2 = R)
    (fun (t, i, d) => ⟨[(1, .val (.int .i64 a)), (2, .val (.int .i64 b)), (3, .loc 0 r1 0), (7, .val (.int .i64 i)), (8, .val (.int .i64 (5 - (t : Int))))], fblk r1 lf sf lb sb, 1, μ, J d⟩) (fun p => p.1)
    (5, a + 1, d) ⟨by dsimp only; omega, by dsimp only; omega, by dsimp only; omega, hV, hR⟩ (fun (_, _, _) => ⟨rfl, rfl⟩) ⟨⟨rfl, rfl, rfl, rfl, rfl, trivial⟩, ⟨rfl, trivial⟩, rfl, rfl⟩ ?_
  clear hR
  rintro ⟨t, i, d1⟩ ⟨ht, hai, hib, hs, hR⟩
  dsimp only at ht hai hib hs hR
  refine ifd (fun h5 => ?_) (fun h5 => ?_)
  rotate_left
  · obtain rfl : t = 0 := by omega
    rw [partialIns] at hR
    subst hR
    exact ret_plain ⟨rfl, rfl, rfl, hs⟩
  obtain ⟨t, rfl⟩ : ∃ k, t = k + 1 := ⟨t - 1, by omega⟩
  rw [partialIns_succ] at hR
  generalize hS : scanSorted lt d1 b i = S at *
  refine loop_intro (fun i' : Nat => i ≤ i' ∧ i' ≤ b ∧ scanSorted lt d1 b i' = S) (fun i' => ⟨[(1, .val (.int .i64 a)), (2, .val (.int .i64 b)), (3, .loc 0 r1 0), (7, .val (.int .i64 i')), (8, .val (.int .i64 (5 - ((t + 1 : Nat) : Int))))], fblk r1 lf sf lb sb, 1, μ, J d1⟩) (fun i' => b - i')
    i ⟨by omega, by omega, hS⟩ (fun _ => ⟨rfl, rfl⟩) ⟨⟨rfl, rfl, rfl, rfl, rfl, trivial⟩, ⟨rfl, trivial⟩, rfl, rfl⟩ ?_
  clear hS
  rintro i' ⟨h1, h2, hS⟩
  rw [scanSorted] at hS
  refine ifd (fun hlt => ?_) (fun hlt => ?_)
  rotate_left
  · rw [if_neg (by simp; omega)] at hS
    obtain rfl := hS
    rw [if_pos (by omega)] at hR
    subst hR
    refine ifd (fun _ => ?_) (fun h => absurd (by omega) h)
    exact ret_plain ⟨rfl, rfl, rfl, hs⟩
  refine num_eq (x := ((i' - 1 : Nat) : Int)) (by rw [wrap64 (by omega) (by omega)]; omega) ?_
  refine call_own (H.less hle hs (i := i') (j := i' - 1) (by omega) (by omega)) fun v μ' h' hle' hap hR => ?_
  obtain ⟨rfl, e2, rfl⟩ := hR
  obtain rfl := e2.symm
  clear hle' hap
  refine if_intro (fun hl => ?_) (fun hl => ?_)
  · rw [if_pos (by simp only [Bool.and_eq_true, decide_eq_true_eq]; exact ⟨by omega, hl⟩)] at hS
    refine num_eq (x := ((i' + 1 : Nat) : Int)) (by rw [wrap64 (by omega) (by omega)]; omega) ?_
    exact ⟨i' + 1, ⟨by omega, by omega, hS⟩, by omega, ⟨⟨rfl, rfl, rfl, rfl, rfl, trivial⟩, ⟨rfl, trivial⟩, rfl, rfl⟩⟩
  rw [if_neg (by simp only [Bool.and_eq_true, hl]; simp)] at hS
  obtain rfl := hS
  refine ifd (fun h => absurd h (by omega)) (fun _ => ?_)
  rw [if_neg (by omega)] at hR
  refine num_eq (x := ((b - a : Nat) : Int)) (by rw [wrap64 (by omega) (by omega)]; omega) ?_
  refine ifd (fun h50 => ?_) (fun h50 => ?_)
  · rw [if_pos (by omega)] at hR
    subst hR
    exact ret_plain ⟨rfl, rfl, rfl, hs⟩
  rw [if_neg (by omega)] at hR
  refine num_eq (x := ((i' - 1 : Nat) : Int)) (by rw [wrap64 (by omega) (by omega)]; omega) ?_
  refine call_own (H.swap hle hs (i := i') (j := i' - 1) (by omega) (by omega)) fun v μ' h' hle' hap hR => ?_
  obtain ⟨rfl, e2, rfl⟩ := hR
  obtain rfl := e2.symm
  clear hle' hap
  have hs2 : V (swp d1 i' (i' - 1)) := H.sw hs (by omega) (by omega)
  generalize swp d1 i' (i' - 1) = d2 at *
  refine num_eq (x := ((i' - a : Nat) : Int)) (by rw [wrap64 (by omega) (by omega)]; omega) ?_
  unfold fixDown at hR
  refine ifd (fun hd2 => ?_) (fun hd2 => ?_)
  · rw [if_pos (by omega)] at hR
    refine num_eq (x := ((i' - 1 : Nat) : Int)) (by rw [wrap64 (by omega) (by omega)]; omega) ?_
    generalize hD : shiftDown lt (i' - 1) d2 = D2 at *
    refine loop_intro (fun p : Nat × Array α => p.1 ≤ i' - 1 ∧ V p.2 ∧ shiftDown lt p.1 p.2 = D2) (fun (j, d) => ⟨[(1, .val (.int .i64 a)), (2, .val (.int .i64 b)), (3, .loc 0 r1 0), (7, .val (.int .i64 i')), (8, .val (.int .i64 (5 - ((t + 1 : Nat) : Int)))), (9, .val (.int .i64 j))], fblk r1 lf sf lb sb, 1, μ, J d⟩) (fun p => p.1)
      (i' - 1, d2) ⟨by dsimp only; omega, hs2, hD⟩ (fun (_, _) => ⟨rfl, rfl⟩) ⟨⟨rfl, rfl, rfl, rfl, rfl, rfl, trivial⟩, ⟨rfl, trivial⟩, rfl, rfl⟩ ?_
    clear hD
    rintro ⟨j, d3⟩ ⟨hj, hs3, hD⟩
    dsimp only at hj hs3 hD
    refine ifd (fun hj1 => ?_) (fun hj1 => ?_)
    · obtain ⟨k, rfl⟩ : ∃ k, j = k + 1 := ⟨j - 1, by omega⟩
      rw [shiftDown] at hD
      refine num_eq (x := ((k : Nat) : Int)) (by rw [wrap64 (by omega) (by omega)]; omega) ?_
      refine call_own (H.less hle hs3 (i := k + 1) (j := k) (by omega) (by omega)) fun v μ' h' hle' hap hR => ?_
      obtain ⟨rfl, e2, rfl⟩ := hR
      obtain rfl := e2.symm
      clear hle' hap
      refine if_intro (fun hl2 => ?_) (fun hl2 => ?_)
      · rw [if_pos hl2] at hD
        obtain rfl := hD
        refine num_eq (x := ((b - i' : Nat) : Int)) (by rw [wrap64 (by omega) (by omega)]; omega) ?_
        unfold fixUp at hR
        refine ifd (fun hu2 => ?_) (fun hu2 => ?_)
        · rw [if_pos (by omega)] at hR
          refine num_eq (x := ((i' + 1 : Nat) : Int)) (by rw [wrap64 (by omega) (by omega)]; omega) ?_
          generalize hE : shiftUp lt b (i' + 1) d3 = D4 at *
          refine loop_intro (fun p : Nat × Array α => i' + 1 ≤ p.1 ∧ p.1 ≤ b + 1 ∧ V p.2 ∧ shiftUp lt b p.1 p.2 = D4) (fun (j, d) => ⟨[(1, .val (.int .i64 a)), (2, .val (.int .i64 b)), (3, .loc 0 r1 0), (7, .val (.int .i64 i')), (8, .val (.int .i64 (5 - ((t + 1 : Nat) : Int)))), (10, .val (.int .i64 j))], fblk r1 lf sf lb sb, 1, μ, J d⟩) (fun p => b - p.1)
            (i' + 1, d3) ⟨by dsimp only; omega, by dsimp only; omega, hs3, hE⟩ (fun (_, _) => ⟨rfl, rfl⟩) ⟨⟨rfl, rfl, rfl, rfl, rfl, rfl, trivial⟩, ⟨rfl, trivial⟩, rfl, rfl⟩ ?_
          clear hE
          rintro ⟨j2, d5⟩ ⟨hj2, hjb2, hs5, hE⟩
          dsimp only at hj2 hjb2 hs5 hE
          rw [shiftUp] at hE
          refine ifd (fun hj1 => ?_) (fun hj1 => ?_)
          · rw [if_pos (by omega)] at hE
            refine num_eq (x := ((j2 - 1 : Nat) : Int)) (by rw [wrap64 (by omega) (by omega)]; omega) ?_
            refine call_own (H.less hle hs5 (i := j2) (j := j2 - 1) (by omega) (by omega)) fun v μ' h' hle' hap hR => ?_
            obtain ⟨rfl, e2, rfl⟩ := hR
            obtain rfl := e2.symm
            clear hle' hap
            refine if_intro (fun hl3 => ?_) (fun hl3 => ?_)
            · rw [if_pos hl3] at hE
              obtain rfl := hE
              refine num_eq (x := 5 - (t : Int)) (by rw [wrap64 (by omega) (by omega)]; omega) ?_
              exact ⟨(t, i', d5), ⟨by dsimp only; omega, by dsimp only; omega, by dsimp only; omega, hs5, hR⟩, by dsimp only; omega, ⟨⟨rfl, rfl, rfl, rfl, rfl, trivial⟩, ⟨rfl, trivial⟩, rfl, rfl⟩⟩
            · rw [if_neg (by simp only [hl3]; simp)] at hE
              refine num_eq (x := ((j2 - 1 : Nat) : Int)) (by rw [wrap64 (by omega) (by omega)]; omega) ?_
              refine call_own (H.swap hle hs5 (i := j2) (j := j2 - 1) (by omega) (by omega)) fun v μ' h' hle' hap hR => ?_
              obtain ⟨rfl, e2, rfl⟩ := hR
              obtain rfl := e2.symm
              clear hle' hap
              refine num_eq (x := ((j2 + 1 : Nat) : Int)) (by rw [wrap64 (by omega) (by omega)]; omega) ?_
              exact ⟨(j2 + 1, swp d5 j2 (j2 - 1)), ⟨by dsimp only; omega, by dsimp only; omega, H.sw hs5 (by omega) (by omega), hE⟩, by dsimp only; omega, ⟨⟨rfl, rfl, rfl, rfl, rfl, rfl, trivial⟩, ⟨rfl, trivial⟩, rfl, rfl⟩⟩
          · rw [if_neg (by omega)] at hE
            obtain rfl := hE
            refine num_eq (x := 5 - (t : Int)) (by rw [wrap64 (by omega) (by omega)]; omega) ?_
            exact ⟨(t, i', d5), ⟨by dsimp only; omega, by dsimp only; omega, by dsimp only; omega, hs5, hR⟩, by dsimp only; omega, ⟨⟨rfl, rfl, rfl, rfl, rfl, trivial⟩, ⟨rfl, trivial⟩, rfl, rfl⟩⟩
        · rw [if_neg (by omega)] at hR
          refine num_eq (x := 5 - (t : Int)) (by rw [wrap64 (by omega) (by omega)]; omega) ?_
          exact ⟨(t, i', d3), ⟨by dsimp only; omega, by dsimp only; omega, by dsimp only; omega, hs3, hR⟩, by dsimp only; omega, ⟨⟨rfl, rfl, rfl, rfl, rfl, trivial⟩, ⟨rfl, trivial⟩, rfl, rfl⟩⟩
      · rw [if_neg (by simp only [hl2]; simp)] at hD
        refine num_eq (x := ((k : Nat) : Int)) (by rw [wrap64 (by omega) (by omega)]; omega) ?_
        refine call_own (H.swap hle hs3 (i := k + 1) (j := k) (by omega) (by omega)) fun v μ' h' hle' hap hR => ?_
        obtain ⟨rfl, e2, rfl⟩ := hR
        obtain rfl := e2.symm
        clear hle' hap
        refine num_eq (x := ((k : Nat) : Int)) (by rw [wrap64 (by omega) (by omega)]; omega) ?_
        exact ⟨(k, swp d3 (k + 1) k), ⟨by dsimp only; omega, H.sw hs3 (by omega) (by omega), hD⟩, by dsimp only; omega, ⟨⟨rfl, rfl, rfl, rfl, rfl, rfl, trivial⟩, ⟨rfl, trivial⟩, rfl, rfl⟩⟩
    · obtain rfl : j = 0 := by omega
      have hD : d3 = D2 := hD
      obtain rfl := hD
      refine num_eq (x := ((b - i' : Nat) : Int)) (by rw [wrap64 (by omega) (by omega)]; omega) ?_
      unfold fixUp at hR
      refine ifd (fun hu2 => ?_) (fun hu2 => ?_)
      · rw [if_pos (by omega)] at hR
        refine num_eq (x := ((i' + 1 : Nat) : Int)) (by rw [wrap64 (by omega) (by omega)]; omega) ?_
        generalize hE : shiftUp lt b (i' + 1) d3 = D4 at *
        refine loop_intro (fun p : Nat × Array α => i' + 1 ≤ p.1 ∧ p.1 ≤ b + 1 ∧ V p.2 ∧ shiftUp lt b p.1 p.2 = D4) (fun (j, d) => ⟨[(1, .val (.int .i64 a)), (2, .val (.int .i64 b)), (3, .loc 0 r1 0), (7, .val (.int .i64 i')), (8, .val (.int .i64 (5 - ((t + 1 : Nat) : Int)))), (10, .val (.int .i64 j))], fblk r1 lf sf lb sb, 1, μ, J d⟩) (fun p => b - p.1)
          (i' + 1, d3) ⟨by dsimp only; omega, by dsimp only; omega, hs3, hE⟩ (fun (_, _) => ⟨rfl, rfl⟩) ⟨⟨rfl, rfl, rfl, rfl, rfl, rfl, trivial⟩, ⟨rfl, trivial⟩, rfl, rfl⟩ ?_
        clear hE
        rintro ⟨j2, d5⟩ ⟨hj2, hjb2, hs5, hE⟩
        dsimp only at hj2 hjb2 hs5 hE
        rw [shiftUp] at hE
        refine ifd (fun hj1 => ?_) (fun hj1 => ?_)
        · rw [if_pos (by omega)] at hE
          refine num_eq (x := ((j2 - 1 : Nat) : Int)) (by rw [wrap64 (by omega) (by omega)]; omega) ?_
          refine call_own (H.less hle hs5 (i := j2) (j := j2 - 1) (by omega) (by omega)) fun v μ' h' hle' hap hR => ?_
          obtain ⟨rfl, e2, rfl⟩ := hR
          obtain rfl := e2.symm
          clear hle' hap
          refine if_intro (fun hl3 => ?_) (fun hl3 => ?_)
          · rw [if_pos hl3] at hE
            obtain rfl := hE
            refine num_eq (x := 5 - (t : Int)) (by rw [wrap64 (by omega) (by omega)]; omega) ?_
            exact ⟨(t, i', d5), ⟨by dsimp only; omega, by dsimp only; omega, by dsimp only; omega, hs5, hR⟩, by dsimp only; omega, ⟨⟨rfl, rfl, rfl, rfl, rfl, trivial⟩, ⟨rfl, trivial⟩, rfl, rfl⟩⟩
          · rw [if_neg (by simp only [hl3]; simp)] at hE
            refine num_eq (x := ((j2 - 1 : Nat) : Int)) (by rw [wrap64 (by omega) (by omega)]; omega) ?_
            refine call_own (H.swap hle hs5 (i := j2) (j := j2 - 1) (by omega) (by omega)) fun v μ' h' hle' hap hR => ?_
            obtain ⟨rfl, e2, rfl⟩ := hR
            obtain rfl := e2.symm
            clear hle' hap
            refine num_eq (x := ((j2 + 1 : Nat) : Int)) (by rw [wrap64 (by omega) (by omega)]; omega) ?_
            exact ⟨(j2 + 1, swp d5 j2 (j2 - 1)), ⟨by dsimp only; omega, by dsimp only; omega, H.sw hs5 (by omega) (by omega), hE⟩, by dsimp only; omega, ⟨⟨rfl, rfl, rfl, rfl, rfl, rfl, trivial⟩, ⟨rfl, trivial⟩, rfl, rfl⟩⟩
        · rw [if_neg (by omega)] at hE
          obtain rfl := hE
          refine num_eq (x := 5 - (t : Int)) (by rw [wrap64 (by omega) (by omega)]; omega) ?_
          exact ⟨(t, i', d5), ⟨by dsimp only; omega, by dsimp only; omega, by dsimp only; omega, hs5, hR⟩, by dsimp only; omega, ⟨⟨rfl, rfl, rfl, rfl, rfl, trivial⟩, ⟨rfl, trivial⟩, rfl, rfl⟩⟩
      · rw [if_neg (by omega)] at hR
        refine num_eq (x := 5 - (t : Int)) (by rw [wrap64 (by omega) (by omega)]; omega) ?_
        exact ⟨(t, i', d3), ⟨by dsimp only; omega, by dsimp only; omega, by dsimp only; omega, hs3, hR⟩, by dsimp only; omega, ⟨⟨rfl, rfl, rfl, rfl, rfl, trivial⟩, ⟨rfl, trivial⟩, rfl, rfl⟩⟩
  · rw [if_neg (by omega)] at hR
    refine num_eq (x := ((b - i' : Nat) : Int)) (by rw [wrap64 (by omega) (by omega)]; omega) ?_
    unfold fixUp at hR
    refine ifd (fun hu2 => ?_) (fun hu2 => ?_)
    · rw [if_pos (by omega)] at hR
      refine num_eq (x := ((i' + 1 : Nat) : Int)) (by rw [wrap64 (by omega) (by omega)]; omega) ?_
      generalize hE : shiftUp lt b (i' + 1) d2 = D4 at *
      refine loop_intro (fun p : Nat × Array α => i' + 1 ≤ p.1 ∧ p.1 ≤ b + 1 ∧ V p.2 ∧ shiftUp lt b p.1 p.2 = D4) (fun (j, d) => ⟨[(1, .val (.int .i64 a)), (2, .val (.int .i64 b)), (3, .loc 0 r1 0), (7, .val (.int .i64 i')), (8, .val (.int .i64 (5 - ((t + 1 : Nat) : Int)))), (10, .val (.int .i64 j))], fblk r1 lf sf lb sb, 1, μ, J d⟩) (fun p => b - p.1)
        (i' + 1, d2) ⟨by dsimp only; omega, by dsimp only; omega, hs2, hE⟩ (fun (_, _) => ⟨rfl, rfl⟩) ⟨⟨rfl, rfl, rfl, rfl, rfl, rfl, trivial⟩, ⟨rfl, trivial⟩, rfl, rfl⟩ ?_
      clear hE
      rintro ⟨j2, d5⟩ ⟨hj2, hjb2, hs5, hE⟩
      dsimp only at hj2 hjb2 hs5 hE
      rw [shiftUp] at hE
      refine ifd (fun hj1 => ?_) (fun hj1 => ?_)
      · rw [if_pos (by omega)] at hE
        refine num_eq (x := ((j2 - 1 : Nat) : Int)) (by rw [wrap64 (by omega) (by omega)]; omega) ?_
        refine call_own (H.less hle hs5 (i := j2) (j := j2 - 1) (by omega) (by omega)) fun v μ' h' hle' hap hR => ?_
        obtain ⟨rfl, e2, rfl⟩ := hR
        obtain rfl := e2.symm
        clear hle' hap
        refine if_intro (fun hl3 => ?_) (fun hl3 => ?_)
        · rw [if_pos hl3] at hE
          obtain rfl := hE
          refine num_eq (x := 5 - (t : Int)) (by rw [wrap64 (by omega) (by omega)]; omega) ?_
          exact ⟨(t, i', d5), ⟨by dsimp only; omega, by dsimp only; omega, by dsimp only; omega, hs5, hR⟩, by dsimp only; omega, ⟨⟨rfl, rfl, rfl, rfl, rfl, trivial⟩, ⟨rfl, trivial⟩, rfl, rfl⟩⟩
        · rw [if_neg (by simp only [hl3]; simp)] at hE
          refine num_eq (x := ((j2 - 1 : Nat) : Int)) (by rw [wrap64 (by omega) (by omega)]; omega) ?_
          refine call_own (H.swap hle hs5 (i := j2) (j := j2 - 1) (by omega) (by omega)) fun v μ' h' hle' hap hR => ?_
          obtain ⟨rfl, e2, rfl⟩ := hR
          obtain rfl := e2.symm
          clear hle' hap
          refine num_eq (x := ((j2 + 1 : Nat) : Int)) (by rw [wrap64 (by omega) (by omega)]; omega) ?_
          exact ⟨(j2 + 1, swp d5 j2 (j2 - 1)), ⟨by dsimp only; omega, by dsimp only; omega, H.sw hs5 (by omega) (by omega), hE⟩, by dsimp only; omega, ⟨⟨rfl, rfl, rfl, rfl, rfl, rfl, trivial⟩, ⟨rfl, trivial⟩, rfl, rfl⟩⟩
      · rw [if_neg (by omega)] at hE
        obtain rfl := hE
        refine num_eq (x := 5 - (t : Int)) (by rw [wrap64 (by omega) (by omega)]; omega) ?_
        exact ⟨(t, i', d5), ⟨by dsimp only; omega, by dsimp only; omega, by dsimp only; omega, hs5, hR⟩, by dsimp only; omega, ⟨⟨rfl, rfl, rfl, rfl, rfl, trivial⟩, ⟨rfl, trivial⟩, rfl, rfl⟩⟩
    · rw [if_neg (by omega)] at hR
      refine num_eq (x := 5 - (t : Int)) (by rw [wrap64 (by omega) (by omega)]; omega) ?_
      exact ⟨(t, i', d2), ⟨by dsimp only; omega, by dsimp only; omega, by dsimp only; omega, hs2, hR⟩, by dsimp only; omega, ⟨⟨rfl, rfl, rfl, rfl, rfl, trivial⟩, ⟨rfl, trivial⟩, rfl, rfl⟩⟩
end
end Go.Vx

/- Contracts: a row sorted by its owner's functions. -/
namespace Go.Vx
open Go.Proofs Classical
open Go.Sort
section
variable {α : Type} [Inhabited α] {lf sf : FuncId} {lb sb : List Value} {n : Nat} {lt : α → α → Bool} {μ0 : Mem} {J : Array α → Mem} {V : Array α → Prop}
set_option maxHeartbeats 16000000 in
theorem pdqsortF_spec (H : SortBy lf sf lb sb n lt μ0 J V) (hO : SWO lt) : ∀ (m : Nat) (a b limit : Nat) (d : Array α) (μ : Mem), b - a < m → a ≤ b → b ≤ n → V d → μ0.Le μ → limit ≤ 64 → Below lt a b d →
    SpecH Tryz.prog 184 [fdata lf sf lb sb, .int .i64 a, .int .i64 b, .int .i64 limit] μ (J d) fun v μ' h' => v = .tuple #[] ∧ ∃ d', PermIn a b d d' ∧ SortedIn lt a b d' ∧ h' = J d' ∧ V d' := by
  intro m
  induction m with
  | zero => intro a b limit d μ h; omega
  | succ m ih =>
  intro a0 b0 limit0 d0 μ hm hab0 hb0 hV0 hle0 hl0 hB0
  have hn := H.max
  refine SpecH.mk [] Tryz.func184 (by kernel_rfl) ?_
  intro r1
  refine loop_intro (fun p : Nat × Nat × Nat × Bool × Bool × Array α × Mem => p.1 ≤ p.2.1 ∧ p.2.1 ≤ n ∧ p.2.1 - p.1 ≤ b0 - a0 ∧ p.2.2.1 ≤ 64 ∧ V p.2.2.2.2.2.1 ∧ Below lt p.1 p.2.1 p.2.2.2.2.2.1 ∧ μ0.Le p.2.2.2.2.2.2 ∧ ∀ R, PermIn p.1 p.2.1 p.2.2.2.2.2.1 R → SortedIn lt p.1 p.2.1 R → PermIn a0 b0 d0 R ∧ SortedIn lt a0 b0 R)
    (fun (a, b, limit, wb, wp, d, μ') => ⟨[(1, .val (.int .i64 a)), (2, .val (.int .i64 b)), (3, .val (.int .i64 limit)), (4, .loc 0 r1 0), (8, .val (.bool wb)), (9, .val (.bool wp))], fblk r1 lf sf lb sb, 1, μ', J d⟩) (fun p => p.2.1 - p.1)
    (a0, b0, limit0, true, true, d0, μ) ⟨hab0, hb0, Nat.le_refl _, hl0, hV0, hB0, hle0, fun R h1 h2 => ⟨h1, h2⟩⟩ (fun (_, _, _, _, _, _, _) => ⟨rfl, rfl⟩) ⟨⟨rfl, rfl, rfl, rfl, rfl, rfl, trivial⟩, ⟨rfl, trivial⟩, rfl, rfl⟩ ?_
  rintro ⟨a, b, limit, wb, wp, d, μ1⟩ ⟨hab, hb, hlen, hlim, hs, hB, hle, hfin⟩
  dsimp only at hab hb hlen hlim hs hB hle hfin
  refine num_eq (x := ((b - a : Nat) : Int)) (by rw [wrap64 (by omega) (by omega)]; omega) ?_
  refine ifd (fun h12 => ?_) (fun h12 => ?_)
  · refine call_own (insertionSortF_spec H hle hs hab hb) fun v μ' h' hle' hap hR => ?_
    obtain ⟨rfl, e1, rfl, hV2⟩ := hR
    have hsz := H.size hs
    have q := insertionSort_holds (lt := lt) hO d a b hab (by omega)
    exact ret_plain ⟨rfl, _, (hfin _ q.1 q.2).1, (hfin _ q.1 q.2).2, rfl, hV2⟩
  refine ifd (fun hl => ?_) (fun hl => ?_)
  · refine call_own (heapSortF_spec H hle hs (by omega) hb) fun v μ' h' hle' hap hR => ?_
    obtain ⟨rfl, e1, rfl, hV2⟩ := hR
    have hsz := H.size hs
    have q := heapSort_holds (lt := lt) hO d a b hab (by omega)
    exact ret_plain ⟨rfl, _, (hfin _ q.1 q.2).1, (hfin _ q.1 q.2).2, rfl, hV2⟩
  cases wb with
  | false =>
    refine if_intro (fun _ => ?_) (fun h => nomatch h)
    refine call_own (breakPatternsF_spec H hle hs (by omega) hb) fun v μ2 h' hle' hap hR => ?_
    obtain ⟨rfl, d1, p1, rfl, hs1⟩ := hR
    have hsz := H.size hs
    replace hB := hB.perm (by omega) p1
    replace hfin := fun R h1 h2 => hfin R (permIn_trans _ _ _ _ _ p1 h1) h2
    replace hle := hle.trans hle'
    clear hs p1 hle' hsz
    refine num_eq (x := ((limit - 1 : Nat) : Int)) (by rw [wrap64 (by omega) (by omega)]; omega) ?_
    refine call_own (choosePivotF_spec H hle hs1 (by omega) hb) fun v μ3 h' hle' hap hR => ?_
    obtain ⟨p, k, hp1, hp2, hk, rfl, rfl⟩ := hR
    replace hle := hle.trans hle'
    clear hle' hap
    refine ifd (fun hk2 => ?_) (fun hk2 => ?_)
    · refine call_own (reverseRangeF_spec H hle hs1 (by omega) hab hb) fun v μ4 h' hle' hap hR => ?_
      obtain ⟨rfl, e1, rfl, hs2⟩ := hR
      obtain rfl := e1.symm
      clear hle' hap
      have hsz := H.size hs1
      have p2 := reverseRange_holds d1 a b hab (by omega)
      generalize reverseRange d1 a b = d2 at *
      replace hB := hB.perm (by omega) p2
      replace hfin := fun R h1 h2 => hfin R (permIn_trans _ _ _ _ _ p2 h1) h2
      clear p2 hsz
      refine num_eq (x := ((b - 1 : Nat) : Int)) (by rw [wrap64 (by omega) (by omega)]; omega) ?_
      refine num_eq (x := ((p - a : Nat) : Int)) (by rw [wrap64 (by omega) (by omega)]; omega) ?_
      refine num_eq (x := (((b - 1) - (p - a) : Nat) : Int)) (by rw [wrap64 (by omega) (by omega)]; omega) ?_
      refine if_intro (fun h => nomatch h) (fun _ => ?_)
      refine ifd (fun ha0 => ?_) (fun ha0 => ?_)
      · refine num_eq (x := ((a - 1 : Nat) : Int)) (by rw [wrap64 (by omega) (by omega)]; omega) ?_
        refine call_own (H.less hle hs2 (i := a - 1) (j := (b - 1) - (p - a)) (by omega) (by omega)) fun v μ' h' hle' hap hR => ?_
        obtain ⟨rfl, e2, rfl⟩ := hR
        obtain rfl := e2.symm
        clear hle' hap
        have hsz := H.size hs2
        refine if_intro (fun hnl => ?_) (fun hnl => ?_)
        · refine call_own (partitionEqualF_spec H (pivot := (b - 1) - (p - a)) hle hs2 (by omega) (by omega) hb) fun v μ6 h' hle' hap hR => ?_
          obtain ⟨rfl, e1, rfl, hs4⟩ := hR
          obtain rfl := e1.symm
          obtain ⟨mid, d4, hx⟩ : ∃ mid d4, partitionEqual lt d2 a b ((b - 1) - (p - a)) = (mid, d4) := ⟨_, _, rfl⟩
          rw [hx] at hs4 ⊢
          have q := round_eq hO (partitionEqual_holds lt) (by omega) (by omega) (by omega) (by omega) hB (by simpa using hnl) hx
          have qa := q.1
          exact ⟨(mid, b, limit - 1, false, wp, d4, _), ⟨q.2.1, hb, by dsimp only; omega, by dsimp only; omega, hs4, q.2.2.2.1, hle, fun R h1 h2 => hfin R (q.2.2.2.2 R h1 h2).1 (q.2.2.2.2 R h1 h2).2⟩, by dsimp only; omega, ⟨⟨rfl, rfl, rfl, rfl, rfl, rfl, trivial⟩, ⟨rfl, trivial⟩, rfl, rfl⟩⟩
        · refine call_own (partitionF_spec H (pivot := (b - 1) - (p - a)) hle hs2 (by omega) (by omega) hb) fun v μ6 h' hle' hap hR => ?_
          obtain ⟨⟨ap, rfl⟩, e1, rfl, hs4⟩ := hR
          have hsz' := H.size hs2
          obtain rfl := e1.symm
          obtain ⟨mid, ap', d4, hx⟩ : ∃ mid ap' d4, partition lt d2 a b ((b - 1) - (p - a)) = (mid, ap', d4) := ⟨_, _, _, rfl⟩
          rw [hx] at hs4 ⊢
          obtain ⟨q1, q2, q3, q4, q5, q6, q7⟩ := round_part hO (partition_holds lt) (by omega) (by omega) (by omega) hB hx
          refine num_eq (x := ((mid - a : Nat) : Int)) (by rw [wrap64 (by omega) (by omega)]; omega) ?_
          refine num_eq (x := ((b - mid : Nat) : Int)) (by rw [wrap64 (by omega) (by omega)]; omega) ?_
          refine need_intro (by decide) ?_
          refine num_eq (x := (((b - a) / 8 : Nat) : Int)) (by rw [Int.tdiv_eq_ediv_of_nonneg (by omega), wrap64 (by omega) (by omega)]; omega) ?_
          refine ifd (fun hlt => ?_) (fun hlt => ?_)
          · refine call_own (ih a mid (limit - 1) d4 _ (by omega) (by omega) (by omega) hs4 hle (by omega) q4) fun v μ7 h' hle7 hap hR => ?_
            obtain ⟨rfl, L, g1, g2, rfl, hs5⟩ := hR
            obtain ⟨g3, g4⟩ := q6 L g1 g2
            refine num_eq (x := ((mid + 1 : Nat) : Int)) (by rw [wrap64 (by omega) (by omega)]; omega) ?_
            exact ⟨(mid + 1, b, limit - 1, _, ap, L, μ7), ⟨by dsimp only; omega, hb, by dsimp only; omega, by dsimp only; omega, hs5, g3, hle.trans hle7, fun R h1 h2 => hfin R (g4 R h1 h2).1 (g4 R h1 h2).2⟩, by dsimp only; omega, ⟨⟨rfl, rfl, rfl, rfl, rfl, rfl, trivial⟩, ⟨rfl, trivial⟩, rfl, rfl⟩⟩
          · refine num_eq (x := ((mid + 1 : Nat) : Int)) (by rw [wrap64 (by omega) (by omega)]; omega) ?_
            refine call_own (ih (mid + 1) b (limit - 1) d4 _ (by omega) (by omega) (by omega) hs4 hle (by omega) q5) fun v μ7 h' hle7 hap hR => ?_
            obtain ⟨rfl, L, g1, g2, rfl, hs5⟩ := hR
            obtain ⟨g3, g4⟩ := q7 L g1 g2
            exact ⟨(a, mid, limit - 1, _, ap, L, μ7), ⟨by dsimp only; omega, by dsimp only; omega, by dsimp only; omega, by dsimp only; omega, hs5, g3, hle.trans hle7, fun R h1 h2 => hfin R (g4 R h1 h2).1 (g4 R h1 h2).2⟩, by dsimp only; omega, ⟨⟨rfl, rfl, rfl, rfl, rfl, rfl, trivial⟩, ⟨rfl, trivial⟩, rfl, rfl⟩⟩
      · refine call_own (partitionF_spec H (pivot := (b - 1) - (p - a)) hle hs2 (by omega) (by omega) hb) fun v μ6 h' hle' hap hR => ?_
        obtain ⟨⟨ap, rfl⟩, e1, rfl, hs4⟩ := hR
        have hsz' := H.size hs2
        obtain rfl := e1.symm
        obtain ⟨mid, ap', d4, hx⟩ : ∃ mid ap' d4, partition lt d2 a b ((b - 1) - (p - a)) = (mid, ap', d4) := ⟨_, _, _, rfl⟩
        rw [hx] at hs4 ⊢
        obtain ⟨q1, q2, q3, q4, q5, q6, q7⟩ := round_part hO (partition_holds lt) (by omega) (by omega) (by omega) hB hx
        refine num_eq (x := ((mid - a : Nat) : Int)) (by rw [wrap64 (by omega) (by omega)]; omega) ?_
        refine num_eq (x := ((b - mid : Nat) : Int)) (by rw [wrap64 (by omega) (by omega)]; omega) ?_
        refine need_intro (by decide) ?_
        refine num_eq (x := (((b - a) / 8 : Nat) : Int)) (by rw [Int.tdiv_eq_ediv_of_nonneg (by omega), wrap64 (by omega) (by omega)]; omega) ?_
        refine ifd (fun hlt => ?_) (fun hlt => ?_)
        · refine call_own (ih a mid (limit - 1) d4 _ (by omega) (by omega) (by omega) hs4 hle (by omega) q4) fun v μ7 h' hle7 hap hR => ?_
          obtain ⟨rfl, L, g1, g2, rfl, hs5⟩ := hR
          obtain ⟨g3, g4⟩ := q6 L g1 g2
          refine num_eq (x := ((mid + 1 : Nat) : Int)) (by rw [wrap64 (by omega) (by omega)]; omega) ?_
          exact ⟨(mid + 1, b, limit - 1, _, ap, L, μ7), ⟨by dsimp only; omega, hb, by dsimp only; omega, by dsimp only; omega, hs5, g3, hle.trans hle7, fun R h1 h2 => hfin R (g4 R h1 h2).1 (g4 R h1 h2).2⟩, by dsimp only; omega, ⟨⟨rfl, rfl, rfl, rfl, rfl, rfl, trivial⟩, ⟨rfl, trivial⟩, rfl, rfl⟩⟩
        · refine num_eq (x := ((mid + 1 : Nat) : Int)) (by rw [wrap64 (by omega) (by omega)]; omega) ?_
          refine call_own (ih (mid + 1) b (limit - 1) d4 _ (by omega) (by omega) (by omega) hs4 hle (by omega) q5) fun v μ7 h' hle7 hap hR => ?_
          obtain ⟨rfl, L, g1, g2, rfl, hs5⟩ := hR
          obtain ⟨g3, g4⟩ := q7 L g1 g2
          exact ⟨(a, mid, limit - 1, _, ap, L, μ7), ⟨by dsimp only; omega, by dsimp only; omega, by dsimp only; omega, by dsimp only; omega, hs5, g3, hle.trans hle7, fun R h1 h2 => hfin R (g4 R h1 h2).1 (g4 R h1 h2).2⟩, by dsimp only; omega, ⟨⟨rfl, rfl, rfl, rfl, rfl, rfl, trivial⟩, ⟨rfl, trivial⟩, rfl, rfl⟩⟩
    · refine if_intro (fun h => nomatch h) (fun _ => ?_)
      refine ifd (fun ha0 => ?_) (fun ha0 => ?_)
      · refine num_eq (x := ((a - 1 : Nat) : Int)) (by rw [wrap64 (by omega) (by omega)]; omega) ?_
        refine call_own (H.less hle hs1 (i := a - 1) (j := p) (by omega) (by omega)) fun v μ' h' hle' hap hR => ?_
        obtain ⟨rfl, e2, rfl⟩ := hR
        obtain rfl := e2.symm
        clear hle' hap
        have hsz := H.size hs1
        refine if_intro (fun hnl => ?_) (fun hnl => ?_)
        · refine call_own (partitionEqualF_spec H (pivot := p) hle hs1 (by omega) (by omega) hb) fun v μ6 h' hle' hap hR => ?_
          obtain ⟨rfl, e1, rfl, hs4⟩ := hR
          obtain rfl := e1.symm
          obtain ⟨mid, d4, hx⟩ : ∃ mid d4, partitionEqual lt d1 a b (p) = (mid, d4) := ⟨_, _, rfl⟩
          rw [hx] at hs4 ⊢
          have q := round_eq hO (partitionEqual_holds lt) (by omega) (by omega) (by omega) (by omega) hB (by simpa using hnl) hx
          have qa := q.1
          exact ⟨(mid, b, limit - 1, false, wp, d4, _), ⟨q.2.1, hb, by dsimp only; omega, by dsimp only; omega, hs4, q.2.2.2.1, hle, fun R h1 h2 => hfin R (q.2.2.2.2 R h1 h2).1 (q.2.2.2.2 R h1 h2).2⟩, by dsimp only; omega, ⟨⟨rfl, rfl, rfl, rfl, rfl, rfl, trivial⟩, ⟨rfl, trivial⟩, rfl, rfl⟩⟩
        · refine call_own (partitionF_spec H (pivot := p) hle hs1 (by omega) (by omega) hb) fun v μ6 h' hle' hap hR => ?_
          obtain ⟨⟨ap, rfl⟩, e1, rfl, hs4⟩ := hR
          have hsz' := H.size hs1
          obtain rfl := e1.symm
          obtain ⟨mid, ap', d4, hx⟩ : ∃ mid ap' d4, partition lt d1 a b (p) = (mid, ap', d4) := ⟨_, _, _, rfl⟩
          rw [hx] at hs4 ⊢
          obtain ⟨q1, q2, q3, q4, q5, q6, q7⟩ := round_part hO (partition_holds lt) (by omega) (by omega) (by omega) hB hx
          refine num_eq (x := ((mid - a : Nat) : Int)) (by rw [wrap64 (by omega) (by omega)]; omega) ?_
          refine num_eq (x := ((b - mid : Nat) : Int)) (by rw [wrap64 (by omega) (by omega)]; omega) ?_
          refine need_intro (by decide) ?_
          refine num_eq (x := (((b - a) / 8 : Nat) : Int)) (by rw [Int.tdiv_eq_ediv_of_nonneg (by omega), wrap64 (by omega) (by omega)]; omega) ?_
          refine ifd (fun hlt => ?_) (fun hlt => ?_)
          · refine call_own (ih a mid (limit - 1) d4 _ (by omega) (by omega) (by omega) hs4 hle (by omega) q4) fun v μ7 h' hle7 hap hR => ?_
            obtain ⟨rfl, L, g1, g2, rfl, hs5⟩ := hR
            obtain ⟨g3, g4⟩ := q6 L g1 g2
            refine num_eq (x := ((mid + 1 : Nat) : Int)) (by rw [wrap64 (by omega) (by omega)]; omega) ?_
            exact ⟨(mid + 1, b, limit - 1, _, ap, L, μ7), ⟨by dsimp only; omega, hb, by dsimp only; omega, by dsimp only; omega, hs5, g3, hle.trans hle7, fun R h1 h2 => hfin R (g4 R h1 h2).1 (g4 R h1 h2).2⟩, by dsimp only; omega, ⟨⟨rfl, rfl, rfl, rfl, rfl, rfl, trivial⟩, ⟨rfl, trivial⟩, rfl, rfl⟩⟩
          · refine num_eq (x := ((mid + 1 : Nat) : Int)) (by rw [wrap64 (by omega) (by omega)]; omega) ?_
            refine call_own (ih (mid + 1) b (limit - 1) d4 _ (by omega) (by omega) (by omega) hs4 hle (by omega) q5) fun v μ7 h' hle7 hap hR => ?_
            obtain ⟨rfl, L, g1, g2, rfl, hs5⟩ := hR
            obtain ⟨g3, g4⟩ := q7 L g1 g2
            exact ⟨(a, mid, limit - 1, _, ap, L, μ7), ⟨by dsimp only; omega, by dsimp only; omega, by dsimp only; omega, by dsimp only; omega, hs5, g3, hle.trans hle7, fun R h1 h2 => hfin R (g4 R h1 h2).1 (g4 R h1 h2).2⟩, by dsimp only; omega, ⟨⟨rfl, rfl, rfl, rfl, rfl, rfl, trivial⟩, ⟨rfl, trivial⟩, rfl, rfl⟩⟩
      · refine call_own (partitionF_spec H (pivot := p) hle hs1 (by omega) (by omega) hb) fun v μ6 h' hle' hap hR => ?_
        obtain ⟨⟨ap, rfl⟩, e1, rfl, hs4⟩ := hR
        have hsz' := H.size hs1
        obtain rfl := e1.symm
        obtain ⟨mid, ap', d4, hx⟩ : ∃ mid ap' d4, partition lt d1 a b (p) = (mid, ap', d4) := ⟨_, _, _, rfl⟩
        rw [hx] at hs4 ⊢
        obtain ⟨q1, q2, q3, q4, q5, q6, q7⟩ := round_part hO (partition_holds lt) (by omega) (by omega) (by omega) hB hx
        refine num_eq (x := ((mid - a : Nat) : Int)) (by rw [wrap64 (by omega) (by omega)]; omega) ?_
        refine num_eq (x := ((b - mid : Nat) : Int)) (by rw [wrap64 (by omega) (by omega)]; omega) ?_
        refine need_intro (by decide) ?_
        refine num_eq (x := (((b - a) / 8 : Nat) : Int)) (by rw [Int.tdiv_eq_ediv_of_nonneg (by omega), wrap64 (by omega) (by omega)]; omega) ?_
        refine ifd (fun hlt => ?_) (fun hlt => ?_)
        · refine call_own (ih a mid (limit - 1) d4 _ (by omega) (by omega) (by omega) hs4 hle (by omega) q4) fun v μ7 h' hle7 hap hR => ?_
          obtain ⟨rfl, L, g1, g2, rfl, hs5⟩ := hR
          obtain ⟨g3, g4⟩ := q6 L g1 g2
          refine num_eq (x := ((mid + 1 : Nat) : Int)) (by rw [wrap64 (by omega) (by omega)]; omega) ?_
          exact ⟨(mid + 1, b, limit - 1, _, ap, L, μ7), ⟨by dsimp only; omega, hb, by dsimp only; omega, by dsimp only; omega, hs5, g3, hle.trans hle7, fun R h1 h2 => hfin R (g4 R h1 h2).1 (g4 R h1 h2).2⟩, by dsimp only; omega, ⟨⟨rfl, rfl, rfl, rfl, rfl, rfl, trivial⟩, ⟨rfl, trivial⟩, rfl, rfl⟩⟩
        · refine num_eq (x := ((mid + 1 : Nat) : Int)) (by rw [wrap64 (by omega) (by omega)]; omega) ?_
          refine call_own (ih (mid + 1) b (limit - 1) d4 _ (by omega) (by omega) (by omega) hs4 hle (by omega) q5) fun v μ7 h' hle7 hap hR => ?_
          obtain ⟨rfl, L, g1, g2, rfl, hs5⟩ := hR
          obtain ⟨g3, g4⟩ := q7 L g1 g2
          exact ⟨(a, mid, limit - 1, _, ap, L, μ7), ⟨by dsimp only; omega, by dsimp only; omega, by dsimp only; omega, by dsimp only; omega, hs5, g3, hle.trans hle7, fun R h1 h2 => hfin R (g4 R h1 h2).1 (g4 R h1 h2).2⟩, by dsimp only; omega, ⟨⟨rfl, rfl, rfl, rfl, rfl, rfl, trivial⟩, ⟨rfl, trivial⟩, rfl, rfl⟩⟩
  | true =>
    refine if_intro (fun h => nomatch h) (fun _ => ?_)
    have hs1 := hs
    refine call_own (choosePivotF_spec H hle hs1 (by omega) hb) fun v μ3 h' hle' hap hR => ?_
    obtain ⟨p, k, hp1, hp2, hk, rfl, rfl⟩ := hR
    replace hle := hle.trans hle'
    clear hle' hap
    refine ifd (fun hk2 => ?_) (fun hk2 => ?_)
    · refine call_own (reverseRangeF_spec H hle hs1 (by omega) hab hb) fun v μ4 h' hle' hap hR => ?_
      obtain ⟨rfl, e1, rfl, hs2⟩ := hR
      obtain rfl := e1.symm
      clear hle' hap
      have hsz := H.size hs1
      have p2 := reverseRange_holds d a b hab (by omega)
      generalize reverseRange d a b = d2 at *
      replace hB := hB.perm (by omega) p2
      replace hfin := fun R h1 h2 => hfin R (permIn_trans _ _ _ _ _ p2 h1) h2
      clear p2 hsz
      refine num_eq (x := ((b - 1 : Nat) : Int)) (by rw [wrap64 (by omega) (by omega)]; omega) ?_
      refine num_eq (x := ((p - a : Nat) : Int)) (by rw [wrap64 (by omega) (by omega)]; omega) ?_
      refine num_eq (x := (((b - 1) - (p - a) : Nat) : Int)) (by rw [wrap64 (by omega) (by omega)]; omega) ?_
      refine if_intro (fun _ => ?_) (fun h => nomatch h)
      refine if_intro (fun hwp => ?_) (fun hwp => ?_)
      · refine ifd (fun _ => ?_) (fun h => absurd rfl h)
        refine call_own (partialInsertionSortF_spec H hle hs2 (by omega) hb) fun v μ5 h' hle' hap hR => ?_
        obtain ⟨rfl, e1, rfl, hs3⟩ := hR
        obtain rfl := e1.symm
        clear hle' hap
        have hsz := H.size hs2
        have q := partialInsertionSort_holds (lt := lt) hO d2 a b (by omega) (by omega) hB
        refine if_intro (fun hok => ?_) (fun hok => ?_)
        · exact ret_plain ⟨rfl, _, (hfin _ q.1 (q.2 hok)).1, (hfin _ q.1 (q.2 hok)).2, rfl, hs3⟩
        · have q1 := q.1
          clear q hok
          generalize (partialInsertionSort lt d2 a b).1 = d3 at *
          replace hB := hB.perm (by omega) q1
          replace hfin := fun R h1 h2 => hfin R (permIn_trans _ _ _ _ _ q1 h1) h2
          clear q1 hsz
          refine ifd (fun ha0 => ?_) (fun ha0 => ?_)
          · refine num_eq (x := ((a - 1 : Nat) : Int)) (by rw [wrap64 (by omega) (by omega)]; omega) ?_
            refine call_own (H.less hle hs3 (i := a - 1) (j := (b - 1) - (p - a)) (by omega) (by omega)) fun v μ' h' hle' hap hR => ?_
            obtain ⟨rfl, e2, rfl⟩ := hR
            obtain rfl := e2.symm
            clear hle' hap
            have hsz := H.size hs3
            refine if_intro (fun hnl => ?_) (fun hnl => ?_)
            · refine call_own (partitionEqualF_spec H (pivot := (b - 1) - (p - a)) hle hs3 (by omega) (by omega) hb) fun v μ6 h' hle' hap hR => ?_
              obtain ⟨rfl, e1, rfl, hs4⟩ := hR
              obtain rfl := e1.symm
              obtain ⟨mid, d4, hx⟩ : ∃ mid d4, partitionEqual lt d3 a b ((b - 1) - (p - a)) = (mid, d4) := ⟨_, _, rfl⟩
              rw [hx] at hs4 ⊢
              have q := round_eq hO (partitionEqual_holds lt) (by omega) (by omega) (by omega) (by omega) hB (by simpa using hnl) hx
              have qa := q.1
              exact ⟨(mid, b, limit, true, wp, d4, _), ⟨q.2.1, hb, by dsimp only; omega, by dsimp only; omega, hs4, q.2.2.2.1, hle, fun R h1 h2 => hfin R (q.2.2.2.2 R h1 h2).1 (q.2.2.2.2 R h1 h2).2⟩, by dsimp only; omega, ⟨⟨rfl, rfl, rfl, rfl, rfl, rfl, trivial⟩, ⟨rfl, trivial⟩, rfl, rfl⟩⟩
            · refine call_own (partitionF_spec H (pivot := (b - 1) - (p - a)) hle hs3 (by omega) (by omega) hb) fun v μ6 h' hle' hap hR => ?_
              obtain ⟨⟨ap, rfl⟩, e1, rfl, hs4⟩ := hR
              have hsz' := H.size hs3
              obtain rfl := e1.symm
              obtain ⟨mid, ap', d4, hx⟩ : ∃ mid ap' d4, partition lt d3 a b ((b - 1) - (p - a)) = (mid, ap', d4) := ⟨_, _, _, rfl⟩
              rw [hx] at hs4 ⊢
              obtain ⟨q1, q2, q3, q4, q5, q6, q7⟩ := round_part hO (partition_holds lt) (by omega) (by omega) (by omega) hB hx
              refine num_eq (x := ((mid - a : Nat) : Int)) (by rw [wrap64 (by omega) (by omega)]; omega) ?_
              refine num_eq (x := ((b - mid : Nat) : Int)) (by rw [wrap64 (by omega) (by omega)]; omega) ?_
              refine need_intro (by decide) ?_
              refine num_eq (x := (((b - a) / 8 : Nat) : Int)) (by rw [Int.tdiv_eq_ediv_of_nonneg (by omega), wrap64 (by omega) (by omega)]; omega) ?_
              refine ifd (fun hlt => ?_) (fun hlt => ?_)
              · refine call_own (ih a mid (limit) d4 _ (by omega) (by omega) (by omega) hs4 hle (by omega) q4) fun v μ7 h' hle7 hap hR => ?_
                obtain ⟨rfl, L, g1, g2, rfl, hs5⟩ := hR
                obtain ⟨g3, g4⟩ := q6 L g1 g2
                refine num_eq (x := ((mid + 1 : Nat) : Int)) (by rw [wrap64 (by omega) (by omega)]; omega) ?_
                exact ⟨(mid + 1, b, limit, _, ap, L, μ7), ⟨by dsimp only; omega, hb, by dsimp only; omega, by dsimp only; omega, hs5, g3, hle.trans hle7, fun R h1 h2 => hfin R (g4 R h1 h2).1 (g4 R h1 h2).2⟩, by dsimp only; omega, ⟨⟨rfl, rfl, rfl, rfl, rfl, rfl, trivial⟩, ⟨rfl, trivial⟩, rfl, rfl⟩⟩
              · refine num_eq (x := ((mid + 1 : Nat) : Int)) (by rw [wrap64 (by omega) (by omega)]; omega) ?_
                refine call_own (ih (mid + 1) b (limit) d4 _ (by omega) (by omega) (by omega) hs4 hle (by omega) q5) fun v μ7 h' hle7 hap hR => ?_
                obtain ⟨rfl, L, g1, g2, rfl, hs5⟩ := hR
                obtain ⟨g3, g4⟩ := q7 L g1 g2
                exact ⟨(a, mid, limit, _, ap, L, μ7), ⟨by dsimp only; omega, by dsimp only; omega, by dsimp only; omega, by dsimp only; omega, hs5, g3, hle.trans hle7, fun R h1 h2 => hfin R (g4 R h1 h2).1 (g4 R h1 h2).2⟩, by dsimp only; omega, ⟨⟨rfl, rfl, rfl, rfl, rfl, rfl, trivial⟩, ⟨rfl, trivial⟩, rfl, rfl⟩⟩
          · refine call_own (partitionF_spec H (pivot := (b - 1) - (p - a)) hle hs3 (by omega) (by omega) hb) fun v μ6 h' hle' hap hR => ?_
            obtain ⟨⟨ap, rfl⟩, e1, rfl, hs4⟩ := hR
            have hsz' := H.size hs3
            obtain rfl := e1.symm
            obtain ⟨mid, ap', d4, hx⟩ : ∃ mid ap' d4, partition lt d3 a b ((b - 1) - (p - a)) = (mid, ap', d4) := ⟨_, _, _, rfl⟩
            rw [hx] at hs4 ⊢
            obtain ⟨q1, q2, q3, q4, q5, q6, q7⟩ := round_part hO (partition_holds lt) (by omega) (by omega) (by omega) hB hx
            refine num_eq (x := ((mid - a : Nat) : Int)) (by rw [wrap64 (by omega) (by omega)]; omega) ?_
            refine num_eq (x := ((b - mid : Nat) : Int)) (by rw [wrap64 (by omega) (by omega)]; omega) ?_
            refine need_intro (by decide) ?_
            refine num_eq (x := (((b - a) / 8 : Nat) : Int)) (by rw [Int.tdiv_eq_ediv_of_nonneg (by omega), wrap64 (by omega) (by omega)]; omega) ?_
            refine ifd (fun hlt => ?_) (fun hlt => ?_)
            · refine call_own (ih a mid (limit) d4 _ (by omega) (by omega) (by omega) hs4 hle (by omega) q4) fun v μ7 h' hle7 hap hR => ?_
              obtain ⟨rfl, L, g1, g2, rfl, hs5⟩ := hR
              obtain ⟨g3, g4⟩ := q6 L g1 g2
              refine num_eq (x := ((mid + 1 : Nat) : Int)) (by rw [wrap64 (by omega) (by omega)]; omega) ?_
              exact ⟨(mid + 1, b, limit, _, ap, L, μ7), ⟨by dsimp only; omega, hb, by dsimp only; omega, by dsimp only; omega, hs5, g3, hle.trans hle7, fun R h1 h2 => hfin R (g4 R h1 h2).1 (g4 R h1 h2).2⟩, by dsimp only; omega, ⟨⟨rfl, rfl, rfl, rfl, rfl, rfl, trivial⟩, ⟨rfl, trivial⟩, rfl, rfl⟩⟩
            · refine num_eq (x := ((mid + 1 : Nat) : Int)) (by rw [wrap64 (by omega) (by omega)]; omega) ?_
              refine call_own (ih (mid + 1) b (limit) d4 _ (by omega) (by omega) (by omega) hs4 hle (by omega) q5) fun v μ7 h' hle7 hap hR => ?_
              obtain ⟨rfl, L, g1, g2, rfl, hs5⟩ := hR
              obtain ⟨g3, g4⟩ := q7 L g1 g2
              exact ⟨(a, mid, limit, _, ap, L, μ7), ⟨by dsimp only; omega, by dsimp only; omega, by dsimp only; omega, by dsimp only; omega, hs5, g3, hle.trans hle7, fun R h1 h2 => hfin R (g4 R h1 h2).1 (g4 R h1 h2).2⟩, by dsimp only; omega, ⟨⟨rfl, rfl, rfl, rfl, rfl, rfl, trivial⟩, ⟨rfl, trivial⟩, rfl, rfl⟩⟩
      · refine ifd (fun ha0 => ?_) (fun ha0 => ?_)
        · refine num_eq (x := ((a - 1 : Nat) : Int)) (by rw [wrap64 (by omega) (by omega)]; omega) ?_
          refine call_own (H.less hle hs2 (i := a - 1) (j := (b - 1) - (p - a)) (by omega) (by omega)) fun v μ' h' hle' hap hR => ?_
          obtain ⟨rfl, e2, rfl⟩ := hR
          obtain rfl := e2.symm
          clear hle' hap
          have hsz := H.size hs2
          refine if_intro (fun hnl => ?_) (fun hnl => ?_)
          · refine call_own (partitionEqualF_spec H (pivot := (b - 1) - (p - a)) hle hs2 (by omega) (by omega) hb) fun v μ6 h' hle' hap hR => ?_
            obtain ⟨rfl, e1, rfl, hs4⟩ := hR
            obtain rfl := e1.symm
            obtain ⟨mid, d4, hx⟩ : ∃ mid d4, partitionEqual lt d2 a b ((b - 1) - (p - a)) = (mid, d4) := ⟨_, _, rfl⟩
            rw [hx] at hs4 ⊢
            have q := round_eq hO (partitionEqual_holds lt) (by omega) (by omega) (by omega) (by omega) hB (by simpa using hnl) hx
            have qa := q.1
            exact ⟨(mid, b, limit, true, wp, d4, _), ⟨q.2.1, hb, by dsimp only; omega, by dsimp only; omega, hs4, q.2.2.2.1, hle, fun R h1 h2 => hfin R (q.2.2.2.2 R h1 h2).1 (q.2.2.2.2 R h1 h2).2⟩, by dsimp only; omega, ⟨⟨rfl, rfl, rfl, rfl, rfl, rfl, trivial⟩, ⟨rfl, trivial⟩, rfl, rfl⟩⟩
          · refine call_own (partitionF_spec H (pivot := (b - 1) - (p - a)) hle hs2 (by omega) (by omega) hb) fun v μ6 h' hle' hap hR => ?_
            obtain ⟨⟨ap, rfl⟩, e1, rfl, hs4⟩ := hR
            have hsz' := H.size hs2
            obtain rfl := e1.symm
            obtain ⟨mid, ap', d4, hx⟩ : ∃ mid ap' d4, partition lt d2 a b ((b - 1) - (p - a)) = (mid, ap', d4) := ⟨_, _, _, rfl⟩
            rw [hx] at hs4 ⊢
            obtain ⟨q1, q2, q3, q4, q5, q6, q7⟩ := round_part hO (partition_holds lt) (by omega) (by omega) (by omega) hB hx
            refine num_eq (x := ((mid - a : Nat) : Int)) (by rw [wrap64 (by omega) (by omega)]; omega) ?_
            refine num_eq (x := ((b - mid : Nat) : Int)) (by rw [wrap64 (by omega) (by omega)]; omega) ?_
            refine need_intro (by decide) ?_
            refine num_eq (x := (((b - a) / 8 : Nat) : Int)) (by rw [Int.tdiv_eq_ediv_of_nonneg (by omega), wrap64 (by omega) (by omega)]; omega) ?_
            refine ifd (fun hlt => ?_) (fun hlt => ?_)
            · refine call_own (ih a mid (limit) d4 _ (by omega) (by omega) (by omega) hs4 hle (by omega) q4) fun v μ7 h' hle7 hap hR => ?_
              obtain ⟨rfl, L, g1, g2, rfl, hs5⟩ := hR
              obtain ⟨g3, g4⟩ := q6 L g1 g2
              refine num_eq (x := ((mid + 1 : Nat) : Int)) (by rw [wrap64 (by omega) (by omega)]; omega) ?_
              exact ⟨(mid + 1, b, limit, _, ap, L, μ7), ⟨by dsimp only; omega, hb, by dsimp only; omega, by dsimp only; omega, hs5, g3, hle.trans hle7, fun R h1 h2 => hfin R (g4 R h1 h2).1 (g4 R h1 h2).2⟩, by dsimp only; omega, ⟨⟨rfl, rfl, rfl, rfl, rfl, rfl, trivial⟩, ⟨rfl, trivial⟩, rfl, rfl⟩⟩
            · refine num_eq (x := ((mid + 1 : Nat) : Int)) (by rw [wrap64 (by omega) (by omega)]; omega) ?_
              refine call_own (ih (mid + 1) b (limit) d4 _ (by omega) (by omega) (by omega) hs4 hle (by omega) q5) fun v μ7 h' hle7 hap hR => ?_
              obtain ⟨rfl, L, g1, g2, rfl, hs5⟩ := hR
              obtain ⟨g3, g4⟩ := q7 L g1 g2
              exact ⟨(a, mid, limit, _, ap, L, μ7), ⟨by dsimp only; omega, by dsimp only; omega, by dsimp only; omega, by dsimp only; omega, hs5, g3, hle.trans hle7, fun R h1 h2 => hfin R (g4 R h1 h2).1 (g4 R h1 h2).2⟩, by dsimp only; omega, ⟨⟨rfl, rfl, rfl, rfl, rfl, rfl, trivial⟩, ⟨rfl, trivial⟩, rfl, rfl⟩⟩
        · refine call_own (partitionF_spec H (pivot := (b - 1) - (p - a)) hle hs2 (by omega) (by omega) hb) fun v μ6 h' hle' hap hR => ?_
          obtain ⟨⟨ap, rfl⟩, e1, rfl, hs4⟩ := hR
          have hsz' := H.size hs2
          obtain rfl := e1.symm
          obtain ⟨mid, ap', d4, hx⟩ : ∃ mid ap' d4, partition lt d2 a b ((b - 1) - (p - a)) = (mid, ap', d4) := ⟨_, _, _, rfl⟩
          rw [hx] at hs4 ⊢
          obtain ⟨q1, q2, q3, q4, q5, q6, q7⟩ := round_part hO (partition_holds lt) (by omega) (by omega) (by omega) hB hx
          refine num_eq (x := ((mid - a : Nat) : Int)) (by rw [wrap64 (by omega) (by omega)]; omega) ?_
          refine num_eq (x := ((b - mid : Nat) : Int)) (by rw [wrap64 (by omega) (by omega)]; omega) ?_
          refine need_intro (by decide) ?_
          refine num_eq (x := (((b - a) / 8 : Nat) : Int)) (by rw [Int.tdiv_eq_ediv_of_nonneg (by omega), wrap64 (by omega) (by omega)]; omega) ?_
          refine ifd (fun hlt => ?_) (fun hlt => ?_)
          · refine call_own (ih a mid (limit) d4 _ (by omega) (by omega) (by omega) hs4 hle (by omega) q4) fun v μ7 h' hle7 hap hR => ?_
            obtain ⟨rfl, L, g1, g2, rfl, hs5⟩ := hR
            obtain ⟨g3, g4⟩ := q6 L g1 g2
            refine num_eq (x := ((mid + 1 : Nat) : Int)) (by rw [wrap64 (by omega) (by omega)]; omega) ?_
            exact ⟨(mid + 1, b, limit, _, ap, L, μ7), ⟨by dsimp only; omega, hb, by dsimp only; omega, by dsimp only; omega, hs5, g3, hle.trans hle7, fun R h1 h2 => hfin R (g4 R h1 h2).1 (g4 R h1 h2).2⟩, by dsimp only; omega, ⟨⟨rfl, rfl, rfl, rfl, rfl, rfl, trivial⟩, ⟨rfl, trivial⟩, rfl, rfl⟩⟩
          · refine num_eq (x := ((mid + 1 : Nat) : Int)) (by rw [wrap64 (by omega) (by omega)]; omega) ?_
            refine call_own (ih (mid + 1) b (limit) d4 _ (by omega) (by omega) (by omega) hs4 hle (by omega) q5) fun v μ7 h' hle7 hap hR => ?_
            obtain ⟨rfl, L, g1, g2, rfl, hs5⟩ := hR
            obtain ⟨g3, g4⟩ := q7 L g1 g2
            exact ⟨(a, mid, limit, _, ap, L, μ7), ⟨by dsimp only; omega, by dsimp only; omega, by dsimp only; omega, by dsimp only; omega, hs5, g3, hle.trans hle7, fun R h1 h2 => hfin R (g4 R h1 h2).1 (g4 R h1 h2).2⟩, by dsimp only; omega, ⟨⟨rfl, rfl, rfl, rfl, rfl, rfl, trivial⟩, ⟨rfl, trivial⟩, rfl, rfl⟩⟩
    · refine if_intro (fun _ => ?_) (fun h => nomatch h)
      refine if_intro (fun hwp => ?_) (fun hwp => ?_)
      · refine ifd (fun hk1 => ?_) (fun hk1 => ?_)
        · refine call_own (partialInsertionSortF_spec H hle hs1 (by omega) hb) fun v μ5 h' hle' hap hR => ?_
          obtain ⟨rfl, e1, rfl, hs3⟩ := hR
          obtain rfl := e1.symm
          clear hle' hap
          have hsz := H.size hs1
          have q := partialInsertionSort_holds (lt := lt) hO d a b (by omega) (by omega) hB
          refine if_intro (fun hok => ?_) (fun hok => ?_)
          · exact ret_plain ⟨rfl, _, (hfin _ q.1 (q.2 hok)).1, (hfin _ q.1 (q.2 hok)).2, rfl, hs3⟩
          · have q1 := q.1
            clear q hok
            generalize (partialInsertionSort lt d a b).1 = d3 at *
            replace hB := hB.perm (by omega) q1
            replace hfin := fun R h1 h2 => hfin R (permIn_trans _ _ _ _ _ q1 h1) h2
            clear q1 hsz
            refine ifd (fun ha0 => ?_) (fun ha0 => ?_)
            · refine num_eq (x := ((a - 1 : Nat) : Int)) (by rw [wrap64 (by omega) (by omega)]; omega) ?_
              refine call_own (H.less hle hs3 (i := a - 1) (j := p) (by omega) (by omega)) fun v μ' h' hle' hap hR => ?_
              obtain ⟨rfl, e2, rfl⟩ := hR
              obtain rfl := e2.symm
              clear hle' hap
              have hsz := H.size hs3
              refine if_intro (fun hnl => ?_) (fun hnl => ?_)
              · refine call_own (partitionEqualF_spec H (pivot := p) hle hs3 (by omega) (by omega) hb) fun v μ6 h' hle' hap hR => ?_
                obtain ⟨rfl, e1, rfl, hs4⟩ := hR
                obtain rfl := e1.symm
                obtain ⟨mid, d4, hx⟩ : ∃ mid d4, partitionEqual lt d3 a b (p) = (mid, d4) := ⟨_, _, rfl⟩
                rw [hx] at hs4 ⊢
                have q := round_eq hO (partitionEqual_holds lt) (by omega) (by omega) (by omega) (by omega) hB (by simpa using hnl) hx
                have qa := q.1
                exact ⟨(mid, b, limit, true, wp, d4, _), ⟨q.2.1, hb, by dsimp only; omega, by dsimp only; omega, hs4, q.2.2.2.1, hle, fun R h1 h2 => hfin R (q.2.2.2.2 R h1 h2).1 (q.2.2.2.2 R h1 h2).2⟩, by dsimp only; omega, ⟨⟨rfl, rfl, rfl, rfl, rfl, rfl, trivial⟩, ⟨rfl, trivial⟩, rfl, rfl⟩⟩
              · refine call_own (partitionF_spec H (pivot := p) hle hs3 (by omega) (by omega) hb) fun v μ6 h' hle' hap hR => ?_
                obtain ⟨⟨ap, rfl⟩, e1, rfl, hs4⟩ := hR
                have hsz' := H.size hs3
                obtain rfl := e1.symm
                obtain ⟨mid, ap', d4, hx⟩ : ∃ mid ap' d4, partition lt d3 a b (p) = (mid, ap', d4) := ⟨_, _, _, rfl⟩
                rw [hx] at hs4 ⊢
                obtain ⟨q1, q2, q3, q4, q5, q6, q7⟩ := round_part hO (partition_holds lt) (by omega) (by omega) (by omega) hB hx
                refine num_eq (x := ((mid - a : Nat) : Int)) (by rw [wrap64 (by omega) (by omega)]; omega) ?_
                refine num_eq (x := ((b - mid : Nat) : Int)) (by rw [wrap64 (by omega) (by omega)]; omega) ?_
                refine need_intro (by decide) ?_
                refine num_eq (x := (((b - a) / 8 : Nat) : Int)) (by rw [Int.tdiv_eq_ediv_of_nonneg (by omega), wrap64 (by omega) (by omega)]; omega) ?_
                refine ifd (fun hlt => ?_) (fun hlt => ?_)
                · refine call_own (ih a mid (limit) d4 _ (by omega) (by omega) (by omega) hs4 hle (by omega) q4) fun v μ7 h' hle7 hap hR => ?_
                  obtain ⟨rfl, L, g1, g2, rfl, hs5⟩ := hR
                  obtain ⟨g3, g4⟩ := q6 L g1 g2
                  refine num_eq (x := ((mid + 1 : Nat) : Int)) (by rw [wrap64 (by omega) (by omega)]; omega) ?_
                  exact ⟨(mid + 1, b, limit, _, ap, L, μ7), ⟨by dsimp only; omega, hb, by dsimp only; omega, by dsimp only; omega, hs5, g3, hle.trans hle7, fun R h1 h2 => hfin R (g4 R h1 h2).1 (g4 R h1 h2).2⟩, by dsimp only; omega, ⟨⟨rfl, rfl, rfl, rfl, rfl, rfl, trivial⟩, ⟨rfl, trivial⟩, rfl, rfl⟩⟩
                · refine num_eq (x := ((mid + 1 : Nat) : Int)) (by rw [wrap64 (by omega) (by omega)]; omega) ?_
                  refine call_own (ih (mid + 1) b (limit) d4 _ (by omega) (by omega) (by omega) hs4 hle (by omega) q5) fun v μ7 h' hle7 hap hR => ?_
                  obtain ⟨rfl, L, g1, g2, rfl, hs5⟩ := hR
                  obtain ⟨g3, g4⟩ := q7 L g1 g2
                  exact ⟨(a, mid, limit, _, ap, L, μ7), ⟨by dsimp only; omega, by dsimp only; omega, by dsimp only; omega, by dsimp only; omega, hs5, g3, hle.trans hle7, fun R h1 h2 => hfin R (g4 R h1 h2).1 (g4 R h1 h2).2⟩, by dsimp only; omega, ⟨⟨rfl, rfl, rfl, rfl, rfl, rfl, trivial⟩, ⟨rfl, trivial⟩, rfl, rfl⟩⟩
            · refine call_own (partitionF_spec H (pivot := p) hle hs3 (by omega) (by omega) hb) fun v μ6 h' hle' hap hR => ?_
              obtain ⟨⟨ap, rfl⟩, e1, rfl, hs4⟩ := hR
              have hsz' := H.size hs3
              obtain rfl := e1.symm
              obtain ⟨mid, ap', d4, hx⟩ : ∃ mid ap' d4, partition lt d3 a b (p) = (mid, ap', d4) := ⟨_, _, _, rfl⟩
              rw [hx] at hs4 ⊢
              obtain ⟨q1, q2, q3, q4, q5, q6, q7⟩ := round_part hO (partition_holds lt) (by omega) (by omega) (by omega) hB hx
              refine num_eq (x := ((mid - a : Nat) : Int)) (by rw [wrap64 (by omega) (by omega)]; omega) ?_
              refine num_eq (x := ((b - mid : Nat) : Int)) (by rw [wrap64 (by omega) (by omega)]; omega) ?_
              refine need_intro (by decide) ?_
              refine num_eq (x := (((b - a) / 8 : Nat) : Int)) (by rw [Int.tdiv_eq_ediv_of_nonneg (by omega), wrap64 (by omega) (by omega)]; omega) ?_
              refine ifd (fun hlt => ?_) (fun hlt => ?_)
              · refine call_own (ih a mid (limit) d4 _ (by omega) (by omega) (by omega) hs4 hle (by omega) q4) fun v μ7 h' hle7 hap hR => ?_
                obtain ⟨rfl, L, g1, g2, rfl, hs5⟩ := hR
                obtain ⟨g3, g4⟩ := q6 L g1 g2
                refine num_eq (x := ((mid + 1 : Nat) : Int)) (by rw [wrap64 (by omega) (by omega)]; omega) ?_
                exact ⟨(mid + 1, b, limit, _, ap, L, μ7), ⟨by dsimp only; omega, hb, by dsimp only; omega, by dsimp only; omega, hs5, g3, hle.trans hle7, fun R h1 h2 => hfin R (g4 R h1 h2).1 (g4 R h1 h2).2⟩, by dsimp only; omega, ⟨⟨rfl, rfl, rfl, rfl, rfl, rfl, trivial⟩, ⟨rfl, trivial⟩, rfl, rfl⟩⟩
              · refine num_eq (x := ((mid + 1 : Nat) : Int)) (by rw [wrap64 (by omega) (by omega)]; omega) ?_
                refine call_own (ih (mid + 1) b (limit) d4 _ (by omega) (by omega) (by omega) hs4 hle (by omega) q5) fun v μ7 h' hle7 hap hR => ?_
                obtain ⟨rfl, L, g1, g2, rfl, hs5⟩ := hR
                obtain ⟨g3, g4⟩ := q7 L g1 g2
                exact ⟨(a, mid, limit, _, ap, L, μ7), ⟨by dsimp only; omega, by dsimp only; omega, by dsimp only; omega, by dsimp only; omega, hs5, g3, hle.trans hle7, fun R h1 h2 => hfin R (g4 R h1 h2).1 (g4 R h1 h2).2⟩, by dsimp only; omega, ⟨⟨rfl, rfl, rfl, rfl, rfl, rfl, trivial⟩, ⟨rfl, trivial⟩, rfl, rfl⟩⟩
        · refine ifd (fun ha0 => ?_) (fun ha0 => ?_)
          · refine num_eq (x := ((a - 1 : Nat) : Int)) (by rw [wrap64 (by omega) (by omega)]; omega) ?_
            refine call_own (H.less hle hs1 (i := a - 1) (j := p) (by omega) (by omega)) fun v μ' h' hle' hap hR => ?_
            obtain ⟨rfl, e2, rfl⟩ := hR
            obtain rfl := e2.symm
            clear hle' hap
            have hsz := H.size hs1
            refine if_intro (fun hnl => ?_) (fun hnl => ?_)
            · refine call_own (partitionEqualF_spec H (pivot := p) hle hs1 (by omega) (by omega) hb) fun v μ6 h' hle' hap hR => ?_
              obtain ⟨rfl, e1, rfl, hs4⟩ := hR
              obtain rfl := e1.symm
              obtain ⟨mid, d4, hx⟩ : ∃ mid d4, partitionEqual lt d a b (p) = (mid, d4) := ⟨_, _, rfl⟩
              rw [hx] at hs4 ⊢
              have q := round_eq hO (partitionEqual_holds lt) (by omega) (by omega) (by omega) (by omega) hB (by simpa using hnl) hx
              have qa := q.1
              exact ⟨(mid, b, limit, true, wp, d4, _), ⟨q.2.1, hb, by dsimp only; omega, by dsimp only; omega, hs4, q.2.2.2.1, hle, fun R h1 h2 => hfin R (q.2.2.2.2 R h1 h2).1 (q.2.2.2.2 R h1 h2).2⟩, by dsimp only; omega, ⟨⟨rfl, rfl, rfl, rfl, rfl, rfl, trivial⟩, ⟨rfl, trivial⟩, rfl, rfl⟩⟩
            · refine call_own (partitionF_spec H (pivot := p) hle hs1 (by omega) (by omega) hb) fun v μ6 h' hle' hap hR => ?_
              obtain ⟨⟨ap, rfl⟩, e1, rfl, hs4⟩ := hR
              have hsz' := H.size hs1
              obtain rfl := e1.symm
              obtain ⟨mid, ap', d4, hx⟩ : ∃ mid ap' d4, partition lt d a b (p) = (mid, ap', d4) := ⟨_, _, _, rfl⟩
              rw [hx] at hs4 ⊢
              obtain ⟨q1, q2, q3, q4, q5, q6, q7⟩ := round_part hO (partition_holds lt) (by omega) (by omega) (by omega) hB hx
              refine num_eq (x := ((mid - a : Nat) : Int)) (by rw [wrap64 (by omega) (by omega)]; omega) ?_
              refine num_eq (x := ((b - mid : Nat) : Int)) (by rw [wrap64 (by omega) (by omega)]; omega) ?_
              refine need_intro (by decide) ?_
              refine num_eq (x := (((b - a) / 8 : Nat) : Int)) (by rw [Int.tdiv_eq_ediv_of_nonneg (by omega), wrap64 (by omega) (by omega)]; omega) ?_
              refine ifd (fun hlt => ?_) (fun hlt => ?_)
              · refine call_own (ih a mid (limit) d4 _ (by omega) (by omega) (by omega) hs4 hle (by omega) q4) fun v μ7 h' hle7 hap hR => ?_
                obtain ⟨rfl, L, g1, g2, rfl, hs5⟩ := hR
                obtain ⟨g3, g4⟩ := q6 L g1 g2
                refine num_eq (x := ((mid + 1 : Nat) : Int)) (by rw [wrap64 (by omega) (by omega)]; omega) ?_
                exact ⟨(mid + 1, b, limit, _, ap, L, μ7), ⟨by dsimp only; omega, hb, by dsimp only; omega, by dsimp only; omega, hs5, g3, hle.trans hle7, fun R h1 h2 => hfin R (g4 R h1 h2).1 (g4 R h1 h2).2⟩, by dsimp only; omega, ⟨⟨rfl, rfl, rfl, rfl, rfl, rfl, trivial⟩, ⟨rfl, trivial⟩, rfl, rfl⟩⟩
              · refine num_eq (x := ((mid + 1 : Nat) : Int)) (by rw [wrap64 (by omega) (by omega)]; omega) ?_
                refine call_own (ih (mid + 1) b (limit) d4 _ (by omega) (by omega) (by omega) hs4 hle (by omega) q5) fun v μ7 h' hle7 hap hR => ?_
                obtain ⟨rfl, L, g1, g2, rfl, hs5⟩ := hR
                obtain ⟨g3, g4⟩ := q7 L g1 g2
                exact ⟨(a, mid, limit, _, ap, L, μ7), ⟨by dsimp only; omega, by dsimp only; omega, by dsimp only; omega, by dsimp only; omega, hs5, g3, hle.trans hle7, fun R h1 h2 => hfin R (g4 R h1 h2).1 (g4 R h1 h2).2⟩, by dsimp only; omega, ⟨⟨rfl, rfl, rfl, rfl, rfl, rfl, trivial⟩, ⟨rfl, trivial⟩, rfl, rfl⟩⟩
          · refine call_own (partitionF_spec H (pivot := p) hle hs1 (by omega) (by omega) hb) fun v μ6 h' hle' hap hR => ?_
            obtain ⟨⟨ap, rfl⟩, e1, rfl, hs4⟩ := hR
            have hsz' := H.size hs1
            obtain rfl := e1.symm
            obtain ⟨mid, ap', d4, hx⟩ : ∃ mid ap' d4, partition lt d a b (p) = (mid, ap', d4) := ⟨_, _, _, rfl⟩
            rw [hx] at hs4 ⊢
            obtain ⟨q1, q2, q3, q4, q5, q6, q7⟩ := round_part hO (partition_holds lt) (by omega) (by omega) (by omega) hB hx
            refine num_eq (x := ((mid - a : Nat) : Int)) (by rw [wrap64 (by omega) (by omega)]; omega) ?_
            refine num_eq (x := ((b - mid : Nat) : Int)) (by rw [wrap64 (by omega) (by omega)]; omega) ?_
            refine need_intro (by decide) ?_
            refine num_eq (x := (((b - a) / 8 : Nat) : Int)) (by rw [Int.tdiv_eq_ediv_of_nonneg (by omega), wrap64 (by omega) (by omega)]; omega) ?_
            refine ifd (fun hlt => ?_) (fun hlt => ?_)
            · refine call_own (ih a mid (limit) d4 _ (by omega) (by omega) (by omega) hs4 hle (by omega) q4) fun v μ7 h' hle7 hap hR => ?_
              obtain ⟨rfl, L, g1, g2, rfl, hs5⟩ := hR
              obtain ⟨g3, g4⟩ := q6 L g1 g2
              refine num_eq (x := ((mid + 1 : Nat) : Int)) (by rw [wrap64 (by omega) (by omega)]; omega) ?_
              exact ⟨(mid + 1, b, limit, _, ap, L, μ7), ⟨by dsimp only; omega, hb, by dsimp only; omega, by dsimp only; omega, hs5, g3, hle.trans hle7, fun R h1 h2 => hfin R (g4 R h1 h2).1 (g4 R h1 h2).2⟩, by dsimp only; omega, ⟨⟨rfl, rfl, rfl, rfl, rfl, rfl, trivial⟩, ⟨rfl, trivial⟩, rfl, rfl⟩⟩
            · refine num_eq (x := ((mid + 1 : Nat) : Int)) (by rw [wrap64 (by omega) (by omega)]; omega) ?_
              refine call_own (ih (mid + 1) b (limit) d4 _ (by omega) (by omega) (by omega) hs4 hle (by omega) q5) fun v μ7 h' hle7 hap hR => ?_
              obtain ⟨rfl, L, g1, g2, rfl, hs5⟩ := hR
              obtain ⟨g3, g4⟩ := q7 L g1 g2
              exact ⟨(a, mid, limit, _, ap, L, μ7), ⟨by dsimp only; omega, by dsimp only; omega, by dsimp only; omega, by dsimp only; omega, hs5, g3, hle.trans hle7, fun R h1 h2 => hfin R (g4 R h1 h2).1 (g4 R h1 h2).2⟩, by dsimp only; omega, ⟨⟨rfl, rfl, rfl, rfl, rfl, rfl, trivial⟩, ⟨rfl, trivial⟩, rfl, rfl⟩⟩
      · refine ifd (fun ha0 => ?_) (fun ha0 => ?_)
        · refine num_eq (x := ((a - 1 : Nat) : Int)) (by rw [wrap64 (by omega) (by omega)]; omega) ?_
          refine call_own (H.less hle hs1 (i := a - 1) (j := p) (by omega) (by omega)) fun v μ' h' hle' hap hR => ?_
          obtain ⟨rfl, e2, rfl⟩ := hR
          obtain rfl := e2.symm
          clear hle' hap
          have hsz := H.size hs1
          refine if_intro (fun hnl => ?_) (fun hnl => ?_)
          · refine call_own (partitionEqualF_spec H (pivot := p) hle hs1 (by omega) (by omega) hb) fun v μ6 h' hle' hap hR => ?_
            obtain ⟨rfl, e1, rfl, hs4⟩ := hR
            obtain rfl := e1.symm
            obtain ⟨mid, d4, hx⟩ : ∃ mid d4, partitionEqual lt d a b (p) = (mid, d4) := ⟨_, _, rfl⟩
            rw [hx] at hs4 ⊢
            have q := round_eq hO (partitionEqual_holds lt) (by omega) (by omega) (by omega) (by omega) hB (by simpa using hnl) hx
            have qa := q.1
            exact ⟨(mid, b, limit, true, wp, d4, _), ⟨q.2.1, hb, by dsimp only; omega, by dsimp only; omega, hs4, q.2.2.2.1, hle, fun R h1 h2 => hfin R (q.2.2.2.2 R h1 h2).1 (q.2.2.2.2 R h1 h2).2⟩, by dsimp only; omega, ⟨⟨rfl, rfl, rfl, rfl, rfl, rfl, trivial⟩, ⟨rfl, trivial⟩, rfl, rfl⟩⟩
          · refine call_own (partitionF_spec H (pivot := p) hle hs1 (by omega) (by omega) hb) fun v μ6 h' hle' hap hR => ?_
            obtain ⟨⟨ap, rfl⟩, e1, rfl, hs4⟩ := hR
            have hsz' := H.size hs1
            obtain rfl := e1.symm
            obtain ⟨mid, ap', d4, hx⟩ : ∃ mid ap' d4, partition lt d a b (p) = (mid, ap', d4) := ⟨_, _, _, rfl⟩
            rw [hx] at hs4 ⊢
            obtain ⟨q1, q2, q3, q4, q5, q6, q7⟩ := round_part hO (partition_holds lt) (by omega) (by omega) (by omega) hB hx
            refine num_eq (x := ((mid - a : Nat) : Int)) (by rw [wrap64 (by omega) (by omega)]; omega) ?_
            refine num_eq (x := ((b - mid : Nat) : Int)) (by rw [wrap64 (by omega) (by omega)]; omega) ?_
            refine need_intro (by decide) ?_
            refine num_eq (x := (((b - a) / 8 : Nat) : Int)) (by rw [Int.tdiv_eq_ediv_of_nonneg (by omega), wrap64 (by omega) (by omega)]; omega) ?_
            refine ifd (fun hlt => ?_) (fun hlt => ?_)
            · refine call_own (ih a mid (limit) d4 _ (by omega) (by omega) (by omega) hs4 hle (by omega) q4) fun v μ7 h' hle7 hap hR => ?_
              obtain ⟨rfl, L, g1, g2, rfl, hs5⟩ := hR
              obtain ⟨g3, g4⟩ := q6 L g1 g2
              refine num_eq (x := ((mid + 1 : Nat) : Int)) (by rw [wrap64 (by omega) (by omega)]; omega) ?_
              exact ⟨(mid + 1, b, limit, _, ap, L, μ7), ⟨by dsimp only; omega, hb, by dsimp only; omega, by dsimp only; omega, hs5, g3, hle.trans hle7, fun R h1 h2 => hfin R (g4 R h1 h2).1 (g4 R h1 h2).2⟩, by dsimp only; omega, ⟨⟨rfl, rfl, rfl, rfl, rfl, rfl, trivial⟩, ⟨rfl, trivial⟩, rfl, rfl⟩⟩
            · refine num_eq (x := ((mid + 1 : Nat) : Int)) (by rw [wrap64 (by omega) (by omega)]; omega) ?_
              refine call_own (ih (mid + 1) b (limit) d4 _ (by omega) (by omega) (by omega) hs4 hle (by omega) q5) fun v μ7 h' hle7 hap hR => ?_
              obtain ⟨rfl, L, g1, g2, rfl, hs5⟩ := hR
              obtain ⟨g3, g4⟩ := q7 L g1 g2
              exact ⟨(a, mid, limit, _, ap, L, μ7), ⟨by dsimp only; omega, by dsimp only; omega, by dsimp only; omega, by dsimp only; omega, hs5, g3, hle.trans hle7, fun R h1 h2 => hfin R (g4 R h1 h2).1 (g4 R h1 h2).2⟩, by dsimp only; omega, ⟨⟨rfl, rfl, rfl, rfl, rfl, rfl, trivial⟩, ⟨rfl, trivial⟩, rfl, rfl⟩⟩
        · refine call_own (partitionF_spec H (pivot := p) hle hs1 (by omega) (by omega) hb) fun v μ6 h' hle' hap hR => ?_
          obtain ⟨⟨ap, rfl⟩, e1, rfl, hs4⟩ := hR
          have hsz' := H.size hs1
          obtain rfl := e1.symm
          obtain ⟨mid, ap', d4, hx⟩ : ∃ mid ap' d4, partition lt d a b (p) = (mid, ap', d4) := ⟨_, _, _, rfl⟩
          rw [hx] at hs4 ⊢
          obtain ⟨q1, q2, q3, q4, q5, q6, q7⟩ := round_part hO (partition_holds lt) (by omega) (by omega) (by omega) hB hx
          refine num_eq (x := ((mid - a : Nat) : Int)) (by rw [wrap64 (by omega) (by omega)]; omega) ?_
          refine num_eq (x := ((b - mid : Nat) : Int)) (by rw [wrap64 (by omega) (by omega)]; omega) ?_
          refine need_intro (by decide) ?_
          refine num_eq (x := (((b - a) / 8 : Nat) : Int)) (by rw [Int.tdiv_eq_ediv_of_nonneg (by omega), wrap64 (by omega) (by omega)]; omega) ?_
          refine ifd (fun hlt => ?_) (fun hlt => ?_)
          · refine call_own (ih a mid (limit) d4 _ (by omega) (by omega) (by omega) hs4 hle (by omega) q4) fun v μ7 h' hle7 hap hR => ?_
            obtain ⟨rfl, L, g1, g2, rfl, hs5⟩ := hR
            obtain ⟨g3, g4⟩ := q6 L g1 g2
            refine num_eq (x := ((mid + 1 : Nat) : Int)) (by rw [wrap64 (by omega) (by omega)]; omega) ?_
            exact ⟨(mid + 1, b, limit, _, ap, L, μ7), ⟨by dsimp only; omega, hb, by dsimp only; omega, by dsimp only; omega, hs5, g3, hle.trans hle7, fun R h1 h2 => hfin R (g4 R h1 h2).1 (g4 R h1 h2).2⟩, by dsimp only; omega, ⟨⟨rfl, rfl, rfl, rfl, rfl, rfl, trivial⟩, ⟨rfl, trivial⟩, rfl, rfl⟩⟩
          · refine num_eq (x := ((mid + 1 : Nat) : Int)) (by rw [wrap64 (by omega) (by omega)]; omega) ?_
            refine call_own (ih (mid + 1) b (limit) d4 _ (by omega) (by omega) (by omega) hs4 hle (by omega) q5) fun v μ7 h' hle7 hap hR => ?_
            obtain ⟨rfl, L, g1, g2, rfl, hs5⟩ := hR
            obtain ⟨g3, g4⟩ := q7 L g1 g2
            exact ⟨(a, mid, limit, _, ap, L, μ7), ⟨by dsimp only; omega, by dsimp only; omega, by dsimp only; omega, by dsimp only; omega, hs5, g3, hle.trans hle7, fun R h1 h2 => hfin R (g4 R h1 h2).1 (g4 R h1 h2).2⟩, by dsimp only; omega, ⟨⟨rfl, rfl, rfl, rfl, rfl, rfl, trivial⟩, ⟨rfl, trivial⟩, rfl, rfl⟩⟩
end
end Go.Vx

/- Contracts: what sort.Slice asks of package reflectlite; rows in owned memory that are changed about by it. -/
namespace Go.Vx
open Go.Proofs Classical
open Go.Sort
open Go.Extern Go.Extern.Rtype Go.RowKit Go.Lib
section
variable {P : Program} {f : FuncId} {args : List Value} {μ h0 : Mem}
/-- A function that answers at once. -/
theorem SpecH.ext {R : Value → Mem → Mem → Prop} (h : ∀ w, Holds μ w → Holds h0 w → Apart μ h0 → ∃ v w' μ' h', (callFunc f args.toArray).run P w = .ok (.value v) w' ∧ R v μ' h' ∧ Step μ h0 w μ' h' w') : SpecH P f args μ h0 R :=
  ⟨trivial, fun w h1 h2 h3 => by
    obtain ⟨v, w', μ', h', e, hr, hS⟩ := h w h1 h2 h3
    exact .inr ⟨v, w', e, v, μ', h', rfl, hr, hS⟩⟩
theorem Step.same {w : World} (h1 : Holds μ w) (h2 : Holds h0 w) (h3 : Apart μ h0) : Step μ h0 w μ h0 w :=
  ⟨Mem.Le.refl _, h1, h2, h3, fun b h h' => absurd h h', fun b h => .inr h, Nat.le_refl _, fun _ _ _ => rfl, rfl, rfl, rfl⟩
/-- A row of its own is written over. -/
theorem Step.row {w : World} {r : Nat} {cs cs' : Array Value} {ty : TypeId} (h1 : Holds μ w) (h2 : Holds h0 w) (h3 : Apart μ h0) (hr : h0 r = some (.cells cs ty (0, 0))) : Step μ h0 w μ (h0.set r (.cells cs' ty (0, 0))) (w.setRow r cs') := by
  have hne : ∀ b, μ b ≠ none → b ≠ r := fun b hb e => by
    subst e; rw [h3 b hb] at hr; cases hr
  have hg : w.heap[r]? = some (.cells cs ty (0, 0)) := h2 _ _ hr
  refine ⟨Mem.Le.refl _, fun b o hb => ?_, fun b o hb => ?_, fun b hb => ?_, fun b h h' => absurd h h', fun b h => ?_, by simp, fun b _ hb => setRow_other w r b _ fun e => ?_, rfl, rfl, rfl⟩
  · rw [setRow_other w r b _ (hne b (by simp [hb]))]; exact h1 b o hb
  · rw [Mem.set_get] at hb
    split at hb
    · rename_i e; subst e; cases hb; rw [setRow_heap w b _ _ ty (0, 0) hg]
    · rename_i e; rw [setRow_other w r b _ e]; exact h2 b o hb
  · rw [Mem.set_ne (hne b hb)]; exact h3 b hb
  · by_cases e : b = r
    · subst e; exact .inr (by rw [hr]; simp)
    · rw [Mem.set_ne e] at h; exact .inr h
  · subst e; rw [hr] at hb; cases hb
/-- A new block. -/
theorem Step.alloc {w : World} {o : Obj} (h1 : Holds μ w) (h2 : Holds h0 w) (h3 : Apart μ h0) : Step μ h0 w (μ.set w.heap.size o) h0 (w.alloc o) ∧ μ w.heap.size = none := by
  have hlt : ∀ b o, w.heap[b]? = some o → b < w.heap.size := fun b o h => (Array.getElem?_eq_some_iff.1 h).1
  have hm : μ w.heap.size = none := by
    cases e : μ w.heap.size with
    | none => rfl
    | some o => have := hlt _ _ (h1 _ _ e); omega
  have hh : h0 w.heap.size = none := by
    cases e : h0 w.heap.size with
    | none => rfl
    | some o => have := hlt _ _ (h2 _ _ e); omega
  have hk : ∀ b, b < w.heap.size → (w.alloc o).heap[b]? = w.heap[b]? := fun b hb => by
    show (w.heap.push o)[b]? = _
    rw [Array.getElem?_push, if_neg (by omega)]
  refine ⟨⟨fun b x hb => ?_, fun b x hb => ?_, fun b x hb => ?_, fun b hb => ?_, fun b h h' => ?_, fun b h => .inr h, by show w.heap.size ≤ (w.heap.push o).size; simp, fun b hb _ => hk b hb, rfl, rfl, rfl⟩, hm⟩
  · rw [Mem.set_ne (fun e => by subst e; rw [hm] at hb; cases hb)]; exact hb
  · rw [Mem.set_get] at hb
    split at hb
    · rename_i e; subst e; cases hb; show (w.heap.push o)[w.heap.size]? = some o; simp
    · rw [hk b (hlt _ _ (h1 _ _ hb))]; exact h1 _ _ hb
  · rw [hk b (hlt _ _ (h2 _ _ hb))]; exact h2 _ _ hb
  · rw [Mem.set_get] at hb
    split at hb
    · rename_i e; subst e; exact hh
    · exact h3 b hb
  · rw [Mem.set_get] at h'
    split at h'
    · rename_i e; subst e; exact .inl (Nat.le_refl _)
    · exact absurd h h'
end
/-- What the model is told of a slice type. -/
structure SlTy (t e : TypeId) (i ie : TypeInfo) (ke : Nat) : Prop where
  hi : Tryz.prog.info? t = some i
  hd : i.desc = .slice e
  pk : Tryz.prog.packed t = false
  hie : Tryz.prog.info? e = some ie
  hke : ∀ w, (Extern.Rtype.kind e).run Tryz.prog w = .ok ke w
  h9 : swapperK 2 ie ke = 9
theorem SlTy.nine {t e : TypeId} {i ie : TypeInfo} {ke : Nat} (T : SlTy t e i ie ke) {n : Nat} (h : 2 ≤ n) : swapperK n ie ke = 9 := by
  rw [← T.h9]
  unfold swapperK
  have h0 : (n == 0) = false := by simp; omega
  have h1 : (n == 1) = false := by simp; omega
  have h2 : ((2 : Nat) == 0) = false := rfl
  have h3 : ((2 : Nat) == 1) = false := rfl
  simp only [h0, h1, h2, h3]
section
variable {μ : Mem}
theorem valueOf_spec {t e : TypeId} {i ie : TypeInfo} {ke : Nat} (T : SlTy t e i ie ke) (p : Option Addr) (n c : Nat) : Spec Tryz.prog 180 [.iface t (.slice p n c)] μ fun v μ' => ∃ r, v = .agg #[typeHandle Tryz.prog t, .pointer (some ⟨r, 0, none⟩), .int .u64 151] ∧ μ' r = some (.cells #[.slice p n c] t (0, 0)) := by
  refine SpecH.ext fun w h1 h2 h3 => ?_
  have hv := run_valueOf_slice (P := Tryz.prog) t e i T.hi T.hd p n c w
  refine ⟨_, _, _, _, ?_, ⟨w.heap.size, rfl, Mem.set_at _ _ _⟩, (Step.alloc h1 h2 h3).1⟩
  rw [run_callFunc_extern Tryz.func180 (by kernel_rfl) (by kernel_rfl) (by kernel_rfl) (e := fun args => Extern.ReflectliteValue.unpack (args.getD 0 (.tuple #[]))) (by kernel_rfl),
    show Sem.run Tryz.prog ((fun args : Array Value => Extern.ReflectliteValue.unpack (args.getD 0 (.tuple #[]))) #[.iface t (.slice p n c)]) w = _ from hv]
  rfl
theorem valueLen_spec {t e : TypeId} {i ie : TypeInfo} {ke : Nat} (T : SlTy t e i ie ke) {p : Option Addr} {n c r : Nat} (hr : μ r = some (.cells #[.slice p n c] t (0, 0))) : Gives Tryz.prog 182 [.agg #[typeHandle Tryz.prog t, .pointer (some ⟨r, 0, none⟩), .int .u64 151]] μ (.int .i64 n) := by
  refine SpecH.ext fun w h1 h2 h3 => ?_
  have hc : w.cell? ⟨r, 0, none⟩ = some (.slice p n c) := by simp [World.cell?, h1 _ _ hr]
  have hl := run_valueLen_slice (P := Tryz.prog) t e i T.hi T.hd T.pk ⟨r, 0, none⟩ p n c w hc
  refine ⟨_, _, _, _, ?_, ⟨rfl, rfl⟩, Step.same h1 h2 h3⟩
  rw [run_callFunc_extern Tryz.func182 (by kernel_rfl) (by kernel_rfl) (by kernel_rfl) (e := Extern.ReflectliteValue.method (Extern.ReflectliteValue.valueError "reflectlite.Value.Len" 0) Extern.ReflectliteValue.len) (by kernel_rfl), hl]
  rfl
theorem swapper_spec {t e : TypeId} {i ie : TypeInfo} {ke : Nat} (T : SlTy t e i ie ke) (p : Option Addr) {n : Nat} (c : Nat) : ∃ (k : FuncId) (bs : List Value), (2 ≤ n → k = 266 ∧ bs = [.slice p n c, typeHandle Tryz.prog e]) ∧ Gives Tryz.prog 181 [.iface t (.slice p n c)] μ (.func (.func k) #[] bs.toArray) := by
  have go : ∀ (f : Nat) (bs : List Value), Tryz.prog.funcs.findIdx? (·.name == "internal/reflectlite" ++ ".Swapper$" ++ toString (swapperK n ie ke)) = some f → (if swapperK n ie ke ≤ 2 then (#[] : Array Value) else #[.slice p n c, typeHandle Tryz.prog e]) = bs.toArray →
      Gives Tryz.prog 181 [.iface t (.slice p n c)] μ (.func (.func f) #[] bs.toArray) := fun f bs hf hbs => by
    refine SpecH.ext fun w h1 h2 h3 => ?_
    have hs := run_swapper_slice (P := Tryz.prog) t e i ie T.hi T.hd T.hie ke T.hke p n c f hf w
    rw [hbs] at hs
    refine ⟨_, _, _, _, ?_, ⟨rfl, rfl⟩, Step.same h1 h2 h3⟩
    rw [run_callFunc_extern Tryz.func181 (by kernel_rfl) (by kernel_rfl) (by kernel_rfl) (e := Extern.ReflectliteSwapper.swapper "internal/reflectlite" (Extern.ReflectliteValue.valueError "Swapper")) (by kernel_rfl), hs]
    rfl
  by_cases h2 : 2 ≤ n
  · refine ⟨266, [.slice p n c, typeHandle Tryz.prog e], fun _ => ⟨rfl, rfl⟩, go _ _ ?_ ?_⟩
    · rw [T.nine h2]; kernel_rfl
    · rw [T.nine h2]; rfl
  · by_cases h0 : n = 0
    · subst h0
      refine ⟨258, [], fun h => by omega, go _ _ ?_ ?_⟩
      · have : swapperK 0 ie ke = 1 := rfl
        have e : Tryz.prog.funcs.findIdx? (·.name == "internal/reflectlite" ++ ".Swapper$" ++ toString (1 : Nat)) = some 258 := by kernel_rfl
        rw [this]; exact e
      · rfl
    · obtain rfl : n = 1 := by omega
      refine ⟨259, [], fun h => by omega, go _ _ ?_ ?_⟩
      · have : swapperK 1 ie ke = 2 := rfl
        have e : Tryz.prog.funcs.findIdx? (·.name == "internal/reflectlite" ++ ".Swapper$" ++ toString (2 : Nat)) = some 259 := by kernel_rfl
        rw [this]; exact e
      · rfl
end
end Go.Vx

/- Contracts: sort.Slice over a row in owned memory. -/
namespace Go.Vx
open Go.Proofs Classical
open Go.Sort
open Go.Extern Go.Extern.Rtype Go.RowKit Go.Lib
/-- A row in owned memory: its elements' cells, then the rest of its block. -/
def RowV (h0 : Mem) (r : Nat) (ty : TypeId) (rest : List Value) (d : Array Value) : Mem := h0.set r (.cells (List.toArray (d.toList.flatMap vcells ++ rest)) ty (0, 0))
/-- Elements of es cells. -/
def Els (es : Nat) (d : Array Value) : Prop := ∀ x ∈ d.toList, (vcells x).length = es ∧ ∀ u ∈ vcells x, u.oneCell' = true
theorem flat_put {es : Nat} : ∀ {l : List Value}, (∀ y ∈ l, (vcells y).length = es) → ∀ {i : Nat}, i < l.length → ∀ {y : Value}, (vcells y).length = es → ∀ rest : List Value,
    (l.flatMap vcells ++ rest).take (i * es) ++ vcells y ++ (l.flatMap vcells ++ rest).drop (i * es + es) = (l.set i y).flatMap vcells ++ rest
  | [], _, i, hi, _, _, _ => by simp at hi
  | z :: r, hl, 0, _, y, hy, rest => by
    have hz := hl z (by simp)
    simp only [Nat.zero_mul, List.take_zero, List.nil_append, Nat.zero_add, List.set_cons_zero, List.flatMap_cons, List.append_assoc]
    rw [← hz, List.drop_left]
  | z :: r, hl, i + 1, hi, y, hy, rest => by
    have hz := hl z (by simp)
    have ih := flat_put (l := r) (fun y h => hl y (List.mem_cons_of_mem _ h)) (i := i) (by simpa using hi) hy rest
    simp only [List.set_cons_succ, List.flatMap_cons, List.append_assoc] at ih ⊢
    have e1 : (i + 1) * es = (vcells z).length + i * es := by rw [hz, Nat.add_mul, Nat.one_mul, Nat.add_comm]
    rw [e1, List.take_length_add_append, Nat.add_assoc, List.drop_length_add_append, List.append_assoc, ih]
theorem arrV_at {d : Array Value} {k : Nat} (h : k < d.size) : d.toList[k]? = some d[k]! := by
  rw [Array.getElem?_toList, getElem!_pos d k h, Array.getElem?_eq_getElem h]
theorem arrV_mem {d : Array Value} {k : Nat} (h : k < d.size) : d[k]! ∈ d.toList := List.mem_of_getElem? (arrV_at h)
theorem Els.perm {es n : Nat} {d d' : Array Value} (hn : d.size = n) (h : Els es d) (p : PermIn 0 n d d') : Els es d' := fun x hx => by
  obtain ⟨i, hi⟩ := List.mem_iff_getElem?.1 hx
  have hi2 : i < d'.size := by have := (List.getElem?_eq_some_iff.1 hi).1; simpa using this
  rw [arrV_at hi2] at hi
  cases hi
  exact permIn_all d d' 0 n (fun x => (vcells x).length = es ∧ ∀ u ∈ vcells x, u.oneCell' = true) (by omega) p (fun j _ hj => h _ (arrV_mem (by omega))) i (by omega) (by rw [p.1] at hi2; omega)
section
variable {P : Program} {μ h0 : Mem} {r : Nat} {ty : TypeId} {rest : List Value} {d : Array Value} {es : Nat}
/-- A cell of an element is read. -/
theorem RowV.cell (hE : Els es d) {i c : Nat} {v : Value} (hi : i < d.size) (hv : (vcells d[i]!)[c]? = some v) : (RowV h0 r ty rest d).cell ⟨r, i * es + c, none⟩ = some v := by
  have h := flat_at (fun y hy => (hE y hy).1) (arrV_at hi) hv
  simp only [Mem.cell, RowV, Mem.set_at, Option.isSome_none]
  have h2 := (List.getElem?_eq_some_iff.1 h).1
  simp only [List.getElem?_toArray]
  rw [List.getElem?_append_left h2, h]
  rfl
theorem load_row {e : TypeId} {ti : TI} (hti : TIok P e ti) (w : World) (a : Addr) (x : Value) (hl : (vcells x).length = ti.size) (h : ∀ j v, (vcells x)[j]? = some v → w.cell? (a.add j) = some v) (h1 : ti.agg = false → ti.size = 1) (h2 : ∀ u ∈ vcells x, u.oneCell' = true) :
    ∃ y, (loadVar e a).run P w = .ok y w ∧ vcells y = vcells x := by
  have hr := run_loadVar_cells hti w a (vcells x) hl h h1
  refine ⟨_, hr, ?_⟩
  cases hg : ti.agg with
  | true => simp [vcells]
  | false =>
    rw [h1 hg] at hl
    match hc : vcells x, hl with
    | [u], _ =>
      have := h2 u (by rw [hc]; simp)
      simp only [Bool.false_eq_true, if_false, List.getD_cons_zero]
      cases u <;> first | rfl | (simp [Value.oneCell'] at this)
/-- Swapper's function: two elements change about. -/
theorem swap9_spec {e : TypeId} {ti : TI} (hti : TIok Tryz.prog e ti) (h1 : ti.agg = false → ti.size = 1) (hE : Els ti.size d) {n cap i j : Nat} (hd : d.size = n) (hi : i < n) (hj : j < n) :
    SpecH Tryz.prog 266 [.int .i64 i, .int .i64 j, .slice (some ⟨r, 0, none⟩) n cap, typeHandle Tryz.prog e] μ (RowV h0 r ty rest d) fun v μ' h' => v = .tuple #[] ∧ μ' = μ ∧ h' = RowV h0 r ty rest (swp d i j) := by
  refine SpecH.ext fun w hm hh ha => ?_
  subst hd
  have hX := hE _ (arrV_mem hi)
  have hY := hE _ (arrV_mem hj)
  have hcell : ∀ k, k < d.size → ∀ c v, (vcells d[k]!)[c]? = some v → w.cell? ((⟨r, k * ti.size, none⟩ : Addr).add c) = some v := fun k hk c v hv => by
    rw [Addr.add_lit']; exact hh.cell (RowV.cell hE hk hv)
  obtain ⟨X, l1, eX⟩ := load_row hti w ⟨r, i * ti.size, none⟩ d[i]! hX.1 (hcell i hi) h1 hX.2
  obtain ⟨Y, l2, eY⟩ := load_row hti w ⟨r, j * ti.size, none⟩ d[j]! hY.1 (hcell j hj) h1 hY.2
  have hb : ∀ k, k < d.size → k * ti.size + ti.size ≤ d.size * ti.size := fun k hk => by
    have := Nat.mul_le_mul_right ti.size (show k + 1 ≤ d.size from hk); rwa [Nat.add_mul, Nat.one_mul] at this
  have hlen : (d.toList.flatMap vcells).length = d.size * ti.size := by rw [flat_len _ fun y hy => (hE y hy).1]; simp
  have hg : w.heap[r]? = some (.cells (List.toArray (d.toList.flatMap vcells ++ rest)) ty (0, 0)) := hh _ _ (Mem.set_at _ _ _)
  have s1 := run_storeVar hti w r (i * ti.size) _ ty hg Y (by rw [eY]; exact hY.1) (by have := hb i hi; simp [hlen]; omega) (by rw [eY]; exact hY.2)
  have e1 := flat_put (fun y hy => (hE y hy).1) (l := d.toList) (i := i) (by simpa using hi) (y := d[j]!) hY.1 rest
  rw [eY, hY.1] at s1
  simp only [e1] at s1
  have hE2 : ∀ y ∈ d.toList.set i d[j]!, (vcells y).length = ti.size := fun y hy => by
    rcases List.mem_or_eq_of_mem_set hy with h | h
    · exact (hE y h).1
    · subst h; exact hY.1
  have hlen2 : ((d.toList.set i d[j]!).flatMap vcells).length = d.size * ti.size := by rw [flat_len _ hE2]; simp
  have hg2 : (w.setRow r (List.toArray ((d.toList.set i d[j]!).flatMap vcells ++ rest))).heap[r]? = some (.cells (List.toArray ((d.toList.set i d[j]!).flatMap vcells ++ rest)) ty (0, 0)) := setRow_heap w r _ _ ty (0, 0) hg
  have s2 := run_storeVar hti _ r (j * ti.size) _ ty hg2 X (by rw [eX]; exact hX.1) (by have := hb j hj; simp [hlen2]; omega) (by rw [eX]; exact hX.2)
  have e2 := flat_put hE2 (i := j) (by simpa using hj) (y := d[i]!) hX.1 rest
  rw [eX, hX.1] at s2
  simp only [e2] at s2
  have hsw : (d.toList.set i d[j]!).set j d[i]! = (swp d i j).toList := by rw [swp, Array.toList_setIfInBounds, Array.toList_setIfInBounds]
  rw [hsw] at s2
  have hss : ∀ z z', (w.setRow r z).setRow r z' = w.setRow r z' := fun z z' => setRow_setRow w r z z'
  have hS := Step.row (cs' := List.toArray ((swp d i j).toList.flatMap vcells ++ rest)) hm hh ha (Mem.set_at _ _ _)
  refine ⟨.tuple #[], w.setRow r (List.toArray ((swp d i j).toList.flatMap vcells ++ rest)), μ, RowV h0 r ty rest (swp d i j), ?_, ⟨rfl, rfl, rfl⟩, ?_⟩
  rotate_left
  · rw [RowV, Mem.set_set] at hS; exact hS
  rw [run_callFunc_extern Tryz.func266 (by kernel_rfl) (by kernel_rfl) (by kernel_rfl) (e := Extern.ReflectliteSwapper.swap false) (by kernel_rfl)]
  show (Sem.run _ (ReflectliteSwapper.swap false #[.int .i64 i, .int .i64 j, .slice (some ⟨r, 0, none⟩) d.size cap, typeHandle Tryz.prog e]) w).andThen _ = _
  have i0 : ¬ ((i : Int) < 0) := by omega
  have i1 : ¬ ((i : Int) ≥ d.size) := by omega
  have j0 : ¬ ((j : Int) < 0) := by omega
  have j1 : ¬ ((j : Int) ≥ d.size) := by omega
  rw [rl_swap]
  simp [i0, i1, j0, j1, ofHandle, handleType, typeHandle, ReflectliteSwapper.exchange, hti.run_sizeOf, Addr.add_lit', l1, l2, s1, s2, hss, Result.andThen]
end
section
variable {μ h0 : Mem} {lf sf : FuncId} {lb sb : List Value} {n : Nat}
theorem insertionSortF_tiny (hn : n ≤ 1) : SpecH Tryz.prog 269 [fdata lf sf lb sb, .int .i64 0, .int .i64 n] μ h0 fun v μ' h' => v = .tuple #[] ∧ μ' = μ ∧ h' = h0 := by
  refine SpecH.mk [] Tryz.func269 (by kernel_rfl) ?_
  intro r1
  refine num_eq (x := ((1 : Nat) : Int)) (by decide) ?_
  refine loop_intro (fun i : Nat => i = 1)
    (fun i => ⟨[(1, .val (.int .i64 0)), (2, .val (.int .i64 n)), (3, .loc 0 r1 0), (6, .val (.int .i64 i))], fblk r1 lf sf lb sb, 1, μ, h0⟩) (fun i => n - i)
    1 rfl (fun _ => ⟨rfl, rfl⟩) ⟨⟨rfl, rfl, rfl, rfl, trivial⟩, ⟨rfl, trivial⟩, rfl, rfl⟩ ?_
  rintro i rfl
  refine ifd (fun h => by omega) (fun h => ?_)
  exact ret_plain ⟨rfl, rfl, rfl⟩
theorem pdqsortF_tiny (hn : n ≤ 1) {limit : Int} : SpecH Tryz.prog 184 [fdata lf sf lb sb, .int .i64 0, .int .i64 n, .int .i64 limit] μ h0 fun v μ' h' => v = .tuple #[] ∧ μ' = μ ∧ h' = h0 := by
  refine SpecH.mk [] Tryz.func184 (by kernel_rfl) ?_
  intro r1
  refine loop_intro (fun _ : Unit => True)
    (fun _ => ⟨[(1, .val (.int .i64 0)), (2, .val (.int .i64 n)), (3, .val (.int .i64 limit)), (4, .loc 0 r1 0), (8, .val (.bool true)), (9, .val (.bool true))], fblk r1 lf sf lb sb, 1, μ, h0⟩) (fun _ => 0)
    () trivial (fun _ => ⟨rfl, rfl⟩) ⟨⟨rfl, rfl, rfl, rfl, rfl, rfl, trivial⟩, ⟨rfl, trivial⟩, rfl, rfl⟩ ?_
  intro _ _
  refine num_eq (x := (n : Int)) (by rw [wrap64 (by omega) (by omega)]; omega) ?_
  refine ifd (fun h12 => ?_) (fun h12 => by omega)
  refine call_own (insertionSortF_tiny hn) fun v μ' h' hle' hap hR => ?_
  obtain ⟨rfl, e1, rfl⟩ := hR
  obtain rfl := e1.symm
  exact ret_plain ⟨rfl, rfl, rfl⟩
end
section
variable {α : Type} [Inhabited α] {enc : α → Value} {μ h0 : Mem} {r : Nat} {ty t e : TypeId} {i ie : TypeInfo} {ke : Nat} {ti : TI} {rest : List Value} {d0 : Array α} {n cap : Nat} {lf : FuncId} {lb : List Value} {lt : α → α → Bool}
theorem map_get {d : Array α} {k : Nat} (h : k < d.size) : (d.map enc)[k]! = enc d[k]! := by
  rw [getElem!_pos _ k (by simpa using h), getElem!_pos d k h, Array.getElem_map]
theorem swp_map {d : Array α} {a b : Nat} (ha : a < d.size) (hb : b < d.size) : (swp d a b).map enc = swp (d.map enc) a b := by
  unfold swp
  rw [map_get hb, map_get ha]
  simp
theorem permIn_map {d d' : Array α} (hn : d.size = n) (p : PermIn 0 n d d') : PermIn 0 n (d.map enc) (d'.map enc) := by
  obtain ⟨h1, h2, h3⟩ := p
  refine ⟨by simp [h1], fun k hk => ?_, ?_⟩
  · have hk2 : n ≤ k := by omega
    rw [getElem!_neg _ k (by simp; omega), getElem!_neg _ k (by simp; omega)]
  · have e1 : d'.extract 0 n = d' := by rw [← hn, ← h1]; exact Array.extract_size
    have e2 : d.extract 0 n = d := by rw [← hn]; exact Array.extract_size
    have e3 : (d'.map enc).extract 0 n = d'.map enc := by rw [← hn, ← h1, show d'.size = (d'.map enc).size by simp]; exact Array.extract_size
    have e4 : (d.map enc).extract 0 n = d.map enc := by rw [← hn, show d.size = (d.map enc).size by simp]; exact Array.extract_size
    rw [e1, e2] at h3
    rw [e3, e4]
    simpa using h3.map enc
theorem permIn_list {d d' : Array α} (hn : d.size = n) (p : PermIn 0 n d d') : d'.toList.Perm d.toList := by
  obtain ⟨h1, h2, h3⟩ := p
  have e1 : d'.extract 0 n = d' := by rw [← hn, ← h1]; exact Array.extract_size
  have e2 : d.extract 0 n = d := by rw [← hn]; exact Array.extract_size
  rwa [e1, e2] at h3
/-- A row of owned memory and its owner's test make a sort. -/
theorem SortBy.row (hti : TIok Tryz.prog e ti) (h1 : ti.agg = false → ti.size = 1) (hE : Els ti.size (d0.map enc)) (hn : d0.size = n) (hmax : n ≤ 1000000000000)
    (less : ∀ {μ' : Mem} {d : Array α} {i j : Nat}, μ.Le μ' → PermIn 0 n d0 d → i < n → j < n → SpecH Tryz.prog lf (.int .i64 i :: .int .i64 j :: lb) μ' (RowV h0 r ty rest (d.map enc)) fun v μ'' h' => v = .bool (lt d[i]! d[j]!) ∧ μ'' = μ' ∧ h' = RowV h0 r ty rest (d.map enc)) :
    SortBy lf 266 lb [.slice (some ⟨r, 0, none⟩) n cap, typeHandle Tryz.prog e] n lt μ (fun d => RowV h0 r ty rest (d.map enc)) (PermIn 0 n d0) where
  max := hmax
  size hV := hV.1.trans hn
  sw hV hi hj := permIn_trans _ _ _ _ _ hV (swp_permIn _ _ _ _ _ (Nat.zero_le _) hi (Nat.zero_le _) hj (by rw [hV.1, hn]; exact Nat.le_refl _))
  dom {d d' b} _ _ hb := by
    simp only [RowV, Mem.set_get] at hb ⊢
    split at hb
    · cases hb
    · rename_i e; rw [if_neg e]; exact hb
  less hle hV hi hj := less hle hV hi hj
  swap {μ d i j} hle hV hi hj := by
    have hs : d.size = n := hV.1.trans hn
    have := swap9_spec (μ := μ) (h0 := h0) (r := r) (ty := ty) (rest := rest) (cap := cap) hti h1 (d := d.map enc) (hE.perm (by simp [hn]) (permIn_map hn hV)) (by simpa using hs) hi hj
    rwa [← swp_map (by omega) (by omega)] at this
theorem SortSlice_spec (T : SlTy t e i ie ke) (hti : TIok Tryz.prog e ti) (h1 : ti.agg = false → ti.size = 1) (hE : Els ti.size (d0.map enc)) (hn : d0.size = n) (hmax : n ≤ 1000000000000) (hO : SWO lt)
    (less : ∀ {μ' : Mem} {d : Array α} {i j : Nat}, μ.Le μ' → PermIn 0 n d0 d → i < n → j < n → SpecH Tryz.prog lf (.int .i64 i :: .int .i64 j :: lb) μ' (RowV h0 r ty rest (d.map enc)) fun v μ'' h' => v = .bool (lt d[i]! d[j]!) ∧ μ'' = μ' ∧ h' = RowV h0 r ty rest (d.map enc)) :
    SpecH Tryz.prog 95 [.iface t (.slice (some ⟨r, 0, none⟩) n cap), .func (.func lf) #[] lb.toArray] μ (RowV h0 r ty rest (d0.map enc)) fun v μ' h' => v = .tuple #[] ∧ ∃ d', PermIn 0 n d0 d' ∧ SortedIn lt 0 n d' ∧ h' = RowV h0 r ty rest (d'.map enc) := by
  refine SpecH.mk [] Tryz.func95 (by kernel_rfl) ?_
  refine call_plain (valueOf_spec T _ _ _) fun v μ1 hle1 hR => ?_
  obtain ⟨rv, rfl, hrv⟩ := hR
  intro r4
  obtain ⟨k, bs, hk, hsw⟩ := swapper_spec (μ := μ1) T (some ⟨r, 0, none⟩) (n := n) cap
  refine call_gives hsw ?_
  refine call_gives (valueLen_spec T hrv) ?_
  refine num_eq (x := (n : Int)) (by
    show (n : Int) % 18446744073709551616 = _
    omega) ?_
  refine call_gives (Len_spec (by omega)) ?_
  have hL : bitsLen n ≤ 40 := (bitsLen_le_iff n 40).2 (by omega)
  by_cases h2 : 2 ≤ n
  · obtain ⟨rfl, rfl⟩ := hk h2
    refine call_own (pdqsortF_spec (SortBy.row (cap := cap) hti h1 hE hn hmax less) hO (n + 1) 0 n (bitsLen n) d0 _ (by omega) (by omega) (Nat.le_refl _) (permIn_refl _ _ _) hle1 (by omega) (.inl rfl)) fun v μ' h' hle hap hR => ?_
    obtain ⟨rfl, d', p1, p2, rfl, _⟩ := hR
    exact ret_plain ⟨rfl, d', p1, p2, rfl⟩
  · refine call_own (pdqsortF_tiny (by omega)) fun v μ' h' hle hap hR => ?_
    obtain ⟨rfl, e1, rfl⟩ := hR
    exact ret_plain ⟨rfl, d0, permIn_refl _ _ _, fun a b _ h3 h4 => by omega, rfl⟩
end
end Go.Vx

/- Rows of data that change places; impl.sortBindings. -/
namespace Go.Vx
open Go.Proofs Classical
open Go.Sort
/-- Elements with what they stand for. -/
structure Prs {X : Type} (es : Nat) (f : X → D) (ps : List (X × Value)) (g : Mem) : Prop where
  own : OwnRows es (ps.map fun p => f p.1) (ps.map Prod.snd) g
  size : ∀ p ∈ ps, (vcells p.2).length = es ∧ ∀ u ∈ vcells p.2, u.oneCell' = true
section
variable {X : Type} {es : Nat} {f : X → D} {g : Mem}
theorem Prs.uncons {p : X × Value} {ps : List (X × Value)} (h : Prs es f (p :: ps) g) : ∃ g1 g2, Parts g g1 g2 ∧ Own (f p.1) g1 (vcells p.2) ∧ (f p.1).n = es ∧ Prs es f ps g2 := by
  obtain ⟨⟨ho, hs, hl⟩, hz⟩ := h
  simp only [List.map_cons, List.flatMap_cons] at ho
  obtain ⟨c1, c2, g1, g2, e, hp, h1, h2⟩ := ho
  have hn : (f p.1).n = es := hs _ (by simp)
  have hz0 := (hz p (by simp)).1
  have := List.append_inj e (by rw [h1.len, hn, hz0])
  obtain ⟨rfl, rfl⟩ := this
  exact ⟨g1, g2, hp, h1, hn, ⟨h2, fun x hx => hs x (by simp only [List.map_cons]; exact List.mem_cons_of_mem _ hx), by simp⟩, fun q hq => hz q (List.mem_cons_of_mem _ hq)⟩
theorem Prs.cons {p : X × Value} {ps : List (X × Value)} {g1 g2 : Mem} (hp : Parts g g1 g2) (h1 : Own (f p.1) g1 (vcells p.2)) (hn : (f p.1).n = es) (hz : (vcells p.2).length = es ∧ ∀ u ∈ vcells p.2, u.oneCell' = true) (h : Prs es f ps g2) : Prs es f (p :: ps) g := by
  refine ⟨⟨?_, ?_, by simp⟩, ?_⟩
  · simp only [List.map_cons, List.flatMap_cons]
    exact OwnS.cons hp h1 h.own.own
  · intro x hx
    simp only [List.map_cons, List.mem_cons] at hx
    rcases hx with rfl | hx
    · exact hn
    · exact h.own.size x hx
  · intro q hq
    rcases List.mem_cons.1 hq with rfl | hq
    · exact hz
    · exact h.size q hq
theorem Prs.perm {ps ps' : List (X × Value)} (h : ps.Perm ps') : ∀ {g : Mem}, Prs es f ps g → Prs es f ps' g := by
  induction h with
  | nil => exact fun h => h
  | cons p _ ih =>
    intro g h
    obtain ⟨g1, g2, hp, h1, hn, h2⟩ := h.uncons
    exact Prs.cons hp h1 hn (h.size _ (by simp)) (ih h2)
  | swap p q l =>
    intro g h
    obtain ⟨g1, k, hp, h1, hn, h2⟩ := h.uncons
    obtain ⟨g2, g3, hq, h3, hn2, h4⟩ := h2.uncons
    obtain ⟨m, hm1, hm2⟩ := Parts.assoc hp hq.symm
    exact Prs.cons hm2.symm h3 hn2 (h.size _ (by simp)) (Prs.cons hm1 h1 hn (h.size _ (by simp)) h4)
  | trans _ _ ih1 ih2 => exact fun h => ih2 (ih1 h)
theorem Prs.at : ∀ {ps : List (X × Value)} {g : Mem}, Prs es f ps g → ∀ p ∈ ps, ∃ g' : Mem, g'.Le g ∧ Own (f p.1) g' (vcells p.2)
  | [], _, _, p, hp => by simp at hp
  | q :: ps, g, h, p, hp => by
    obtain ⟨g1, g2, hpp, h1, _, h2⟩ := h.uncons
    rcases List.mem_cons.1 hp with rfl | hp
    · exact ⟨g1, hpp.left, h1⟩
    · obtain ⟨g', h3, h4⟩ := Prs.at h2 p hp
      exact ⟨g', h3.trans hpp.right, h4⟩
end
section
variable {μ h0 : Mem} {r : Nat} {ty : TypeId} {rest : List Value} {es : Nat}
theorem idxV {n : Nat} {i : Int} {K : Addr → List Value → Prop} {K' : Addr → Prop} (k : Nat) (e : i = k) (hk : k < n) (h : K' ⟨r, k * es, none⟩) : elemVC μ (some ⟨r, 0, none⟩) n es i K K' := by
  subst e
  refine ptr_intro ⟨r, 0, none⟩ rfl (by omega) (by omega) ?_
  have : (⟨r, 0, none⟩ : Addr).add ((k : Int).toNat * es) = ⟨r, k * es, none⟩ := by rw [Addr.add_lit']; simp
  rw [this]; exact h
end
noncomputable instance : Inhabited B := ⟨⟨0, .nil⟩⟩
section
variable {μ h0 g : Mem} {r : Nat} {ty : TypeId} {rest : List Value}
end
end Go.Vx

/- Contracts: rows of numbers in owned memory that are sorted: insertion. -/
namespace Go.Vx
open Go.Proofs Classical
open Go.Sort
/-! ### A row of numbers -/
def RowI (h0 : Mem) (r : Nat) (ty : TypeId) (rest : List Value) (d : Array Int) : Mem := h0.set r (.cells (List.toArray ([] ++ (d.toList.map (Value.int .i64) ++ rest))) ty (0, 0))
section
variable {μ h0 : Mem} {r : Nat} {ty : TypeId} {rest : List Value} {d : Array Int}
theorem swp_size (d : Array Int) (i j : Nat) : (swp d i j).size = d.size := by simp [swp]
end
end Go.Vx

/- Contracts: the choice of a pivot. -/
namespace Go.Vx
open Go.Proofs Classical
open Go.Sort
/-- A row of numbers beside a counter. -/
def RowS (h0 : Mem) (r : Nat) (ty : TypeId) (rest : List Value) (d : Array Int) (rs : Nat) (s : Int) : Mem := RowI (h0.set rs (.cells #[.int .i64 s] 3 (0, 0))) r ty rest d
section
variable {μ h0 : Mem} {r rs : Nat} {ty : TypeId} {rest : List Value} {d : Array Int} {s : Int}
theorem RowS.at (hne : rs ≠ r) : RowS h0 r ty rest d rs s rs = some (.cells #[.int .i64 s] 3 (0, 0)) := by
  rw [RowS, RowI, Mem.set_ne hne, Mem.set_at]
theorem RowS.row (h0 : Mem) (r : Nat) (ty : TypeId) (rest : List Value) (d : Array Int) (rs : Nat) (s : Int) : RowS h0 r ty rest d rs s = RowI (h0.set rs (.cells #[.int .i64 s] 3 (0, 0))) r ty rest d := rfl
theorem RowS.parts (hne : rs ≠ r) (hs : h0 rs = none) : Parts (RowS h0 r ty rest d rs s) (Mem.nil.set rs (.cells #[.int .i64 s] 3 (0, 0))) (RowI h0 r ty rest d) := fun b => by
  by_cases h : b = rs
  · subst h
    exact .inl ⟨by rw [RowS.at hne, Mem.set_at], by rw [RowI, Mem.set_ne hne]; exact hs⟩
  · refine .inr ⟨?_, by rw [Mem.set_ne h]; rfl⟩
    rw [RowS, RowI, RowI]
    by_cases h2 : b = r
    · subst h2; rw [Mem.set_at, Mem.set_at]
    · rw [Mem.set_ne h2, Mem.set_ne h2, Mem.set_ne h]
end
end Go.Vx

/- Contracts: lengths in bits; patterns broken. -/
namespace Go.Vx
open Go.Proofs Classical
open Go.Sort
section
variable {μ h0 : Mem} {r rs : Nat} {ty : TypeId} {rest : List Value} {d : Array Int} {s : Int}
/-- A row of numbers beside a state of the generator. -/
def RowX (h0 : Mem) (r : Nat) (ty : TypeId) (rest : List Value) (d : Array Int) (rs : Nat) (s : Int) : Mem := RowI (h0.set rs (.cells #[.int .u64 s] 318 (0, 0))) r ty rest d
theorem RowX.at (hne : rs ≠ r) : RowX h0 r ty rest d rs s rs = some (.cells #[.int .u64 s] 318 (0, 0)) := by
  rw [RowX, RowI, Mem.set_ne hne, Mem.set_at]
theorem RowX.parts (hne : rs ≠ r) (hs : h0 rs = none) : Parts (RowX h0 r ty rest d rs s) (Mem.nil.set rs (.cells #[.int .u64 s] 318 (0, 0))) (RowI h0 r ty rest d) := fun b => by
  by_cases h : b = rs
  · subst h
    exact .inl ⟨by rw [RowX.at hne, Mem.set_at], by rw [RowI, Mem.set_ne hne]; exact hs⟩
  · refine .inr ⟨?_, by rw [Mem.set_ne h]; rfl⟩
    rw [RowX, RowI, RowI]
    by_cases h2 : b = r
    · subst h2; rw [Mem.set_at, Mem.set_at]
    · rw [Mem.set_ne h2, Mem.set_ne h2, Mem.set_ne h]
end
end Go.Vx

/- Contracts: the sorted keys of a map of numbers. -/
namespace Go.Vx
open Go.Proofs Classical
open Go.Sort
theorem nodup_len {N : Nat} {l : List Nat} (h : l.Nodup) (hb : ∀ j ∈ l, j < N) : l.length ≤ N := by
  have h1 : (l.map fun j : Nat => (j : Int)).Nodup := List.Pairwise.map (S := fun a b => a ≠ b) _ (fun a b hab e => hab (by omega)) h
  have := nodup_range (N := N) h1 fun n hn => by
    obtain ⟨j, hj, rfl⟩ := List.mem_map.1 hn
    have := hb j hj; omega
  rwa [List.length_map] at this
section
variable {μ h : Mem}
end
end Go.Vx

/- Contracts: the laws' own functions on values of the type Goal: sizes, copies, equality, marks; what an argument reads. (By gen_types.py.) -/
namespace Go.Vx
open Go.Proofs Classical
inductive Gl where
  | mk (kind : Int) (name : ByteArray) (terms : List Tm) (goals : List Gl)
def Gl.kind : Gl → Int | .mk a _ _ _ => a
def Gl.name : Gl → ByteArray | .mk _ a _ _ => a
def Gl.terms : Gl → List Tm | .mk _ _ a _ => a
def Gl.goals : Gl → List Gl | .mk _ _ _ a => a
theorem Gl.ind {q : Gl → Prop} (h : ∀ x : Gl, (∀ y ∈ x.goals, q y) → q x) : ∀ x, q x
  | .mk a0 a1 a2 a3 => h _ fun y hy => Gl.ind h y
termination_by x => x
decreasing_by all_goals (first | exact Nat.lt_of_lt_of_le (List.sizeOf_lt_of_mem hy) (by simp only [Gl.goals, Gl.mk.sizeOf_spec]; omega) | decreasing_tactic)
mutual
def Gl.d : Gl → D
  | .mk a0 a1 a2 a3 => .st [.i a0, .s a1, .sl 4 (a2.map Tm.d), .sl 4 (Gl.ds a3)]
def Gl.ds : List Gl → List D
  | [] => []
  | t :: r => t.d :: Gl.ds r
end
theorem Gl.ds_map : ∀ l : List Gl, Gl.ds l = l.map Gl.d
  | [] => rfl
  | t :: r => by simp [Gl.ds, Gl.ds_map r]
theorem Gl.d_eq (x : Gl) : x.d = .st [.i x.kind, .s x.name, .sl 4 (x.terms.map Tm.d), .sl 4 (x.goals.map Gl.d)] := by
  cases x
  rw [Gl.d, Gl.ds_map]
  rfl
theorem Gl.d_n (x : Gl) : x.d.n = 4 := by
  rw [Gl.d_eq]
  simp only [D.n, D.ns]
abbrev Gl.P := (Option Addr × Nat) × (Option Addr × Nat)
/-- The cells of a value. -/
def Gl.cs (x : Gl) (p : Gl.P) : List Value := [.int .i64 x.kind, .string x.name, .slice p.1.1 x.terms.length p.1.2, .slice p.2.1 x.goals.length p.2.2]
section
variable {μ : Mem}
def Gl.At (μ : Mem) (x : Gl) (p : Gl.P) : Prop := Sl μ 4 p.1.1 x.terms.length (x.terms.map Tm.d) ∧ Sl μ 4 p.2.1 x.goals.length (x.goals.map Gl.d)
theorem Gl.invA {x : Gl} {cs : List Value} (h : Rep μ x.d cs) : ∃ p : Gl.P, cs = x.cs p ∧ Gl.At μ x p := by
  rw [Gl.d_eq] at h
  obtain ⟨a0, t0, rfl, h0, h⟩ := h
  have h0 : a0 = [.int .i64 x.kind] := h0
  subst h0
  obtain ⟨a1, t1, rfl, h1, h⟩ := h
  have h1 : a1 = [.string x.name] := h1
  subst h1
  obtain ⟨a2, t2, rfl, h2, h⟩ := h
  obtain ⟨v2, rfl⟩ := one_of (Rep.len _ _ h2)
  obtain ⟨b2, c2, rfl, s2⟩ := Rep.sl h2
  rw [List.length_map] at s2
  obtain ⟨a3, t3, rfl, h3, h⟩ := h
  obtain ⟨v3, rfl⟩ := one_of (Rep.len _ _ h3)
  obtain ⟨b3, c3, rfl, s3⟩ := Rep.sl h3
  rw [List.length_map] at s3
  obtain rfl : t3 = [] := h
  exact ⟨((b2, c2), (b3, c3)), by simp [Gl.cs], ⟨s2, s3⟩⟩
theorem Gl.rep {x : Gl} {cs : List Value} (h : Rep μ x.d cs) : RepV μ x.d (.agg cs.toArray) := by
  rw [Gl.d_eq] at h ⊢; exact ⟨cs, rfl, h⟩
theorem Gl.inv {x : Gl} {v : Value} (h : RepV μ x.d v) : ∃ p : Gl.P, v = .agg #[.int .i64 x.kind, .string x.name, .slice p.1.1 x.terms.length p.1.2, .slice p.2.1 x.goals.length p.2.2] ∧ Gl.At μ x p := by
  have h2 : ∃ cs, v = .agg (List.toArray cs) ∧ Rep μ x.d cs := by rw [Gl.d_eq] at h ⊢; exact h
  obtain ⟨cs, rfl, h3⟩ := h2
  obtain ⟨p, rfl, hA⟩ := Gl.invA h3
  exact ⟨p, rfl, hA⟩
theorem Gl.invV {x : Gl} {v : Value} (h : RepV μ x.d v) : ∃ p : Gl.P, v = .agg #[.int .i64 x.kind, .string x.name, .slice p.1.1 x.terms.length p.1.2, .slice p.2.1 x.goals.length p.2.2] := by
  obtain ⟨p, h, _⟩ := Gl.inv h
  exact ⟨p, h⟩
theorem Gl.elemA {l : List Gl} {base : Option Addr} {n : Nat} (h : Sl μ 4 base n (l.map Gl.d)) {i : Nat} {x : Gl} (hx : l[i]? = some x) : ∃ ad, ∃ p : Gl.P, ElemAt μ base n 4 i ad (x.cs p) ∧ RepV μ x.d (.agg (x.cs p).toArray) ∧ Gl.At μ x p := by
  obtain ⟨ad, cs, h1, h2⟩ := h.get i x.d (by simp [hx])
  obtain ⟨p, rfl, hA⟩ := Gl.invA h2
  exact ⟨ad, p, h1, Gl.rep h2, hA⟩
theorem Gl.elem {l : List Gl} {base : Option Addr} {n : Nat} (h : Sl μ 4 base n (l.map Gl.d)) {i : Nat} {x : Gl} (hx : l[i]? = some x) : ∃ ad, ∃ p : Gl.P, ElemAt μ base n 4 i ad (x.cs p) ∧ RepV μ x.d (.agg (x.cs p).toArray) := by
  obtain ⟨ad, p, h1, h2, _⟩ := Gl.elemA h hx
  exact ⟨ad, p, h1, h2⟩
theorem Gl.ownR {x : Gl} {h : Mem} {cs : List Value} (k : Own x.d h cs) : ∃ p : Gl.P, cs = x.cs p ∧ ∃ g1 g2, Parts h g1 g2 ∧ OwnV (.sl 4 (x.terms.map Tm.d)) g1 (.slice p.1.1 x.terms.length p.1.2) ∧ OwnV (.sl 4 (x.goals.map Gl.d)) g2 (.slice p.2.1 x.goals.length p.2.2) := by
  rw [Gl.d_eq] at k
  obtain ⟨a0, t0, h0, r0, rfl, q0, o0, k⟩ := k
  obtain ⟨rfl, rfl⟩ := o0
  obtain rfl := q0.eq (Parts.nil_left _)
  obtain ⟨a1, t1, h1, r1, rfl, q1, o1, k⟩ := k
  obtain ⟨rfl, rfl⟩ := o1
  obtain rfl := q1.eq (Parts.nil_left _)
  obtain ⟨a2, t2, h2, r2, rfl, q2, o2, k⟩ := k
  obtain ⟨v2, rfl⟩ := one_of (Own.len o2)
  obtain ⟨b2, c2, rfl⟩ := Own.sl o2
  rw [List.length_map] at o2
  obtain ⟨a3, t3, h3, r3, rfl, q3, o3, k⟩ := k
  obtain ⟨v3, rfl⟩ := one_of (Own.len o3)
  obtain ⟨b3, c3, rfl⟩ := Own.sl o3
  rw [List.length_map] at o3
  obtain ⟨rfl, rfl⟩ := k
  obtain rfl := q3.eq (Parts.nil_right _)
  exact ⟨((b2, c2), (b3, c3)), by simp [Gl.cs], ⟨_, _, q2, o2, o3⟩⟩
theorem Gl.sz_eq (x : Gl) : x.d.sz = x.name.size + (x.terms.length + D.szs (x.terms.map Tm.d)) + (x.goals.length + D.szs (x.goals.map Gl.d)) := by
  rw [Gl.d_eq]
  simp [D.sz, D.szs]
  omega
theorem Gl.mk_eq (x : Gl) (k : Int) : x.d.mk k = (.st [.i (k), .s (mtext (k + 1)), .sl 4 (D.mks (x.terms.map Tm.d) (k + 1 + 1)).1, .sl 4 (D.mks (x.goals.map Gl.d) ((D.mks (x.terms.map Tm.d) (k + 1 + 1)).2)).1], (D.mks (x.goals.map Gl.d) ((D.mks (x.terms.map Tm.d) (k + 1 + 1)).2)).2) := by
  rw [Gl.d_eq]
  simp only [D.mk, D.mks]
theorem Gl.cnt_eq (x : Gl) : x.d.cnt = 2 + D.cnts (x.terms.map Tm.d) + D.cnts (x.goals.map Gl.d) := by
  rw [Gl.d_eq]
  simp only [D.cnt, D.cnts]
  omega
theorem Gl.mt_eq (x : Gl) (k : Int) : x.d.mt k = (.st [.i x.kind, .s x.name, .sl 4 (D.mks (x.terms.map Tm.d) (k)).1, .sl 4 (D.mks (x.goals.map Gl.d) ((D.mks (x.terms.map Tm.d) (k)).2)).1], (D.mks (x.goals.map Gl.d) ((D.mks (x.terms.map Tm.d) (k)).2)).2) := by
  rw [Gl.d_eq]
  simp only [D.mt, D.mts]
end
end Go.Vx

/- Contracts: names of relations. -/
namespace Go.Vx
open Go.Proofs Classical
/-! ### Names of relations -/
def rsv : List ByteArray := [⟨#[116, 114, 117, 101]⟩, ⟨#[102, 97, 105, 108]⟩, ⟨#[115, 121, 109, 98, 111, 108]⟩, ⟨#[110, 117, 109, 98, 101, 114]⟩, ⟨#[97, 98, 115, 101, 110, 116]⟩, ⟨#[97, 110, 100]⟩, ⟨#[111, 114]⟩, ⟨#[110, 111, 116]⟩, ⟨#[100, 101, 102, 105, 110, 101]⟩]
def IsRel (s : ByteArray) : Prop := s ∉ rsv ∧ IsNm s
end Go.Vx

/- Contracts: which goals are well-formed. -/
namespace Go.Vx
open Go.Proofs Classical
/-! ### Plain -/
mutual
def Gl.cnt : Gl → Nat
  | .mk _ _ _ l => 1 + Gl.cnts l
def Gl.cnts : List Gl → Nat
  | [] => 0
  | t :: r => t.cnt + Gl.cnts r
end
theorem Gl.cnt_eq1 (g : Gl) : g.cnt = 1 + Gl.cnts g.goals := by cases g; rfl
theorem Gl.cnt_pos (g : Gl) : 1 ≤ g.cnt := by rw [Gl.cnt_eq1]; omega
theorem Gl.cnts_append : ∀ (a c : List Gl), Gl.cnts (a ++ c) = Gl.cnts a + Gl.cnts c
  | [], c => by simp [Gl.cnts]
  | d :: r, c => by simp [Gl.cnts, Gl.cnts_append r c, Nat.add_assoc]
theorem Gl.cnts_take {xs : List Gl} {j : Nat} {x : Gl} (h : xs[j]? = some x) : Gl.cnts (xs.take (j + 1)) = Gl.cnts (xs.take j) + x.cnt := by
  rw [List.take_add_one, h, Option.toList_some, Gl.cnts_append]; simp [Gl.cnts]
theorem Gl.cnts_le (xs : List Gl) (j : Nat) : Gl.cnts (xs.take j) ≤ Gl.cnts xs := by
  have := Gl.cnts_append (xs.take j) (xs.drop j)
  rw [List.take_append_drop] at this; omega
/-- What a goal's own node must be. -/
structure TopOk (g : Gl) : Prop where
  tm : ∀ t ∈ g.terms, t.Ok
  k0 : 0 ≤ g.kind
  k1 : g.kind ≤ 10
  nm : g.kind ≠ 9 → g.name = ⟨#[]⟩
  rel : g.kind = 9 → IsRel g.name
  ln9 : g.kind = 9 → g.terms.length ≤ 4
  ln2 : g.kind = 2 ∨ g.kind = 3 ∨ g.kind = 6 → g.terms.length = 2
  ln1 : g.kind = 4 ∨ g.kind = 5 → g.terms.length = 1
  ln0 : g.kind = 0 ∨ g.kind = 1 ∨ g.kind = 7 ∨ g.kind = 8 ∨ g.kind = 10 → g.terms.length = 0
  gl : g.goals.length ≤ 8
  gl0 : g.kind < 7 ∨ g.kind = 9 → g.goals.length = 0
  gl1 : g.kind = 10 → g.goals.length = 1
  sy : g.kind = 6 → ∀ a, g.terms[0]? = some a → a.kind = 2
  cl : g.kind = 10 → ∀ b, g.goals[0]? = some b → b.kind = 9
inductive Gl.Sh : Gl → Prop
  | mk {g : Gl} (top : TopOk g) (sub : ∀ x ∈ g.goals, x.Sh) : g.Sh
theorem Gl.Sh.top {g : Gl} (h : g.Sh) : TopOk g := by cases h; assumption
theorem Gl.Sh.sub {g : Gl} (h : g.Sh) : ∀ x ∈ g.goals, x.Sh := by cases h; assumption
def Gl.Ok (g : Gl) : Prop := g.Sh ∧ g.cnt ≤ 80
section
variable {μ : Mem}
end
end Go.Vx

/- Contracts: well-formed goals, both sides. -/
namespace Go.Vx
open Go.Proofs Classical
/-- 'goalNodes': the nodes of a well-formed goal that fits; else -1. -/
noncomputable def Gl.nodes (t : Gl) (room : Int) : Int := if t.Sh ∧ (t.cnt : Int) ≤ room then t.cnt else -1
theorem Gl.nodes_neg {t : Gl} {room : Int} (h : ¬ (t.Sh ∧ (t.cnt : Int) ≤ room)) : Value.int .i64 (-1) = .int .i64 (t.nodes room) := by rw [Gl.nodes, if_neg h]
theorem Gl.nodes_pos {t : Gl} {room : Int} (h : t.Sh) (h2 : (t.cnt : Int) ≤ room) : t.nodes room = t.cnt := by rw [Gl.nodes, if_pos ⟨h, h2⟩]
theorem Gl.nodes_lt {t : Gl} {room : Int} (h : t.nodes room < 0) : ¬ (t.Sh ∧ (t.cnt : Int) ≤ room) := fun k => by rw [Gl.nodes, if_pos k] at h; omega
theorem Gl.nodes_ge {t : Gl} {room : Int} (h : ¬ t.nodes room < 0) : t.Sh ∧ (t.cnt : Int) ≤ room ∧ t.nodes room = t.cnt := by
  by_cases k : t.Sh ∧ (t.cnt : Int) ≤ room
  · exact ⟨k.1, k.2, by rw [Gl.nodes, if_pos k]⟩
  · rw [Gl.nodes, if_neg k] at h; omega
section
variable {μ : Mem}
end
end Go.Vx

/- Contracts: goals visited; the variables of a goal. -/
namespace Go.Vx
open Go.Proofs Classical
/-! ### Plain -/
mutual
def Gl.all : Gl → List Gl
  | .mk k s ts gs => .mk k s ts gs :: Gl.alls gs
def Gl.alls : List Gl → List Gl
  | [] => []
  | g :: r => g.all ++ Gl.alls r
end
theorem Gl.alls_map : ∀ l : List Gl, Gl.alls l = l.flatMap Gl.all
  | [] => rfl
  | g :: r => by simp [Gl.alls, Gl.alls_map r]
theorem Gl.all_eq (g : Gl) : g.all = g :: g.goals.flatMap Gl.all := by
  cases g
  rw [Gl.all, Gl.alls_map]
  rfl
theorem Gl.Sh.all : ∀ (g : Gl), g.Sh → ∀ x ∈ g.all, x.Sh :=
  Gl.ind fun g ih h x hx => by
    rw [Gl.all_eq] at hx
    rcases List.mem_cons.1 hx with rfl | hx
    · exact h
    · obtain ⟨y, hy, hx⟩ := List.mem_flatMap.1 hx
      exact ih y hy (h.sub y hy) x hx
noncomputable def Gl.tvars (g : Gl) : List Int := (g.terms.map Tm.toT).flatMap T.vars
noncomputable def Gl.vars (g : Gl) : List Int := g.all.flatMap Gl.tvars
theorem toTs_tm' {xs : List T} : (xs.map T.tm).map Tm.toT = xs := by
  rw [List.map_map]
  exact (List.map_congr_left fun x _ => T.toT_tm x).trans (List.map_id _)
section
variable {μ : Mem}
theorem Gl.vars_range {g : Gl} (h : g.Sh) : ∀ n ∈ g.vars, 0 ≤ n ∧ n ≤ 100000 := fun n hn => by
  obtain ⟨x, hx, hn⟩ := List.mem_flatMap.1 hn
  obtain ⟨xs, hxs, hxo⟩ := lift_ok (h.all g x hx).top.tm
  rw [Gl.tvars, hxs, toTs_tm'] at hn
  obtain ⟨t, ht, hn⟩ := List.mem_flatMap.1 hn
  exact T.vars_range (hxo t ht).1 n hn
end
end Go.Vx

/- Contracts: a mark asked of a term, the program's side: a map of marks, sorted. -/
namespace Go.Vx
open Go.Proofs Classical
open Go.Sort
noncomputable instance : Inhabited Mk := ⟨⟨0, ⟨#[]⟩⟩⟩
theorem slMark : SlTy 26 116 Tryz.t26 Tryz.t116 25 := ⟨by kernel_rfl, by kernel_rfl, by kernel_rfl, by kernel_rfl, fun _ => by kernel_rfl, by kernel_rfl⟩
theorem swo_ltM : SWO ltM := cMk_ord.swo
theorem mks_els (l : List Mk) : ∀ y ∈ l.map Mk.v, (vcells y).length = 2 ∧ ∀ u ∈ vcells y, u.oneCell' = true := fun y hy => by
  obtain ⟨k, _, rfl⟩ := List.mem_map.1 hy
  refine ⟨rfl, fun u hu => ?_⟩
  simp only [Mk.v, vcells, List.mem_cons, List.not_mem_nil, or_false] at hu
  rcases hu with rfl | rfl <;> rfl
theorem mks_own : ∀ l : List Mk, OwnRows 2 (l.map Mk.d) (l.map Mk.v) Mem.nil
  | [] => OwnRows.nil 2
  | k :: l => by
    obtain ⟨h1, h2, h3⟩ := mks_own l
    refine ⟨?_, fun x hx => ?_, by simp⟩
    · simp only [List.map_cons, List.flatMap_cons]
      exact OwnS.cons (Parts.nil_left _) (by rw [Mk.d_eq]; exact OwnS.int (OwnS.str OwnS.nil)) h1
    · simp only [List.map_cons, List.mem_cons] at hx
      rcases hx with rfl | hx
      · exact Mk.d_n k
      · exact h2 x hx
/-- The keys of a map of marks. -/
theorem keys_marks {l : List (Value × Value)} (h : MapOk MkKey l) : ∃ ks : List Mk, l.map Prod.fst = ks.map Mk.v ∧ ks.Nodup := by
  have h1 : ∀ (l : List (Value × Value)), (∀ p ∈ l, MkKey p.1) → ∃ ks : List Mk, l.map Prod.fst = ks.map Mk.v := fun l => by
    induction l with
    | nil => intro _; exact ⟨[], rfl⟩
    | cons p l ih =>
      intro h
      obtain ⟨ks, hks⟩ := ih fun q hq => h q (by simp [hq])
      obtain ⟨n, _, hn⟩ := h p (by simp)
      exact ⟨n :: ks, by rw [List.map_cons, hks, hn]; rfl⟩
  obtain ⟨ks, hks⟩ := h1 l h.keys
  refine ⟨ks, hks, ?_⟩
  have hn := h.nodup
  rw [hks] at hn
  exact List.Pairwise.of_map (S := fun a b => a ≠ b) _ (fun a b hab e => hab (by rw [e])) hn
theorem mget_marks {l : List (Value × Value)} {ks : List Mk} (h : l.map Prod.fst = ks.map Mk.v) (n : Mk) : (mget l n.v).isSome ↔ n ∈ ks := by
  have e : n ∈ ks ↔ n.v ∈ l.map Prod.fst := by
    rw [h, List.mem_map]
    exact ⟨fun k => ⟨n, k, rfl⟩, fun ⟨m, k, e⟩ => by rw [← Mk.v_inj e]; exact k⟩
  rw [e]
  clear e h
  induction l with
  | nil => simp [mget]
  | cons p l ih =>
    obtain ⟨a, v⟩ := p
    rw [mget]
    by_cases h : a = n.v
    · rw [if_pos h]; simp [h]
    · rw [if_neg h]
      refine ih.trans ?_
      simp only [List.map_cons, List.mem_cons]
      exact ⟨.inr, fun k => k.elim (fun e => absurd e.symm h) id⟩
section
variable {α : Type} [Inhabited α]
theorem getG_at {ks : List α} {j : Nat} (h : j < ks.length) : ks[j]? = some (ks.getD j default) := by
  rw [List.getD_eq_getElem?_getD, List.getElem?_eq_getElem h]; rfl
theorem pickedG {ks : List α} (hnd : ks.Nodup) {seen : List Nat} (hsn : seen.Nodup) (hsl : ∀ j ∈ seen, j < ks.length) : (seen.map fun j => ks.getD j default).Nodup := by
  rw [List.nodup_iff_pairwise_ne, List.pairwise_map]
  rw [List.nodup_iff_pairwise_ne] at hsn
  refine hsn.imp_of_mem fun {a b} ha hb hab e => hab ?_
  have h1 := getG_at (hsl a ha)
  have h2 := getG_at (hsl b hb)
  rw [← e] at h2
  exact (List.getElem?_inj (hsl a ha) hnd).1 (h1.trans h2.symm)
theorem pickedG_mem {ks : List α} {seen : List Nat} (hsl : ∀ j ∈ seen, j < ks.length) (hall : ∀ j, j < ks.length → j ∈ seen) (n : α) : n ∈ (seen.map fun j => ks.getD j default) ↔ n ∈ ks := by
  rw [List.mem_map]
  constructor
  · rintro ⟨j, hj, rfl⟩
    exact List.mem_of_getElem? (getG_at (hsl j hj))
  · intro h
    obtain ⟨j, hj⟩ := List.mem_iff_getElem?.1 h
    have hjl := (List.getElem?_eq_some_iff.1 hj).1
    refine ⟨j, hall j hjl, ?_⟩
    rw [getG_at hjl] at hj
    exact Option.some.inj hj
end
section
variable {μ : Mem}
theorem mks_fresh {μ1 h : Mem} {r c : Nat} {ty : TypeId} {l : List Mk} (hb : RowO h r c ty 2 (l.map Mk.v)) (hap : Apart μ1 h) (hle : μ.Le μ1) (hn : l.length ≤ 1000000000000) : Fresh μ (μ1.join h) (.sl 2 (l.map Mk.d)) (.slice (some ⟨r, 0, none⟩) l.length c) := by
  obtain ⟨cs, hcell, hlen0, hcap, hone, hcs, htake⟩ := hb
  have hb2 : μ1 r = none := by
    cases e : μ1 r with
    | none => rfl
    | some o => have := hap r (by simp [e]); rw [hcell] at this; cases this
  have := Fresh.ofRow (μ := μ) (μ1 := μ1) (μ' := μ1.join h) (b := some r) (cap := c) (mks_own l) (fun _ _ h => nomatch h) (fun _ h => absurd rfl h) hle (Mem.le_join _ _) (fun r' e => by cases e; exact hb2)
    ⟨hlen0, hone, _, _, by rw [Mem.join_get, hb2]; exact hcell, by simpa using hcs, by simpa using htake⟩ (Nat.le_trans (m := 1000000000000) (by simpa using hn) (by decide))
  rwa [List.length_map] at this
theorem hasSymbol_spec (s : ByteArray) : ∀ (x : T) {v : Value}, RepV μ x.tm.d v → Gives Tryz.prog 92 [v, .string s] μ (.bool (decide (x.hasSym s))) :=
  T.ind fun x ih v hv => by
    obtain ⟨b1, c1, rfl, hs1⟩ := T.inv hv
    refine Spec.mk Tryz.func92 (by kernel_rfl) ?_
    intro r
    refine ifd (fun h4 => ?_) (fun h4 => ?_)
    · obtain ⟨a, b, rfl⟩ := T.kind4 h4
      obtain ⟨ad1, p1, e1, g1⟩ := T.arg hs1 (i := 0) rfl
      obtain ⟨ad3, p3, e3, g3⟩ := T.arg hs1 (i := 1) rfl
      refine elem_intro e1 (call_gives (ih a (by simp [T.args]) g1) ?_)
      refine ifd (fun h => ret_gives (isT (.inl h)) rfl) (fun h => ?_)
      refine elem_intro e3 (call_gives (ih b (by simp [T.args]) g3) (ret_gives ?_ rfl))
      congr 1
      rw [Bool.eq_iff_iff, decide_eq_true_eq, decide_eq_true_eq]
      exact ⟨.inr, fun k => k.elim (fun k => absurd k h) id⟩
    · have hno : ¬ ∃ y ∈ x.args, y.hasSym s := fun ⟨y, hy, _⟩ => by
        cases x <;> first | (simp [T.args] at hy; done) | exact h4 rfl
      refine ifd (fun h2 => ret_gives ?_ rfl) (fun h2 => ret_gives (isF fun k => ((T.hasSym_args s x).1 k).elim (fun k => h2 k.1) hno) rfl)
      congr 1
      rw [Bool.eq_iff_iff, decide_eq_true_eq, decide_eq_true_eq]
      exact ⟨fun k => (T.hasSym_args s x).2 (.inl ⟨h2, k⟩), fun k => ((T.hasSym_args s x).1 k).elim (fun k => k.2) fun k => absurd k hno⟩
def MksInv (rm rt : Nat) (tag : ByteArray) (s : List Mk) (h : Mem) : Prop := ∃ r l, h rm = some (.cells #[.map (some r)] 129 (0, 0)) ∧ h rt = some (.cells #[.string tag] 9 (0, 0)) ∧ h r = some (mapO l) ∧ MapOk MkKey l ∧ ∀ m : Mk, (mget l m.v).isSome ↔ m ∈ s
theorem MksInv.put {rm rt r : Nat} {tag : ByteArray} {s : List Mk} {h : Mem} {l : List (Value × Value)} (h1 : h rm = some (.cells #[.map (some r)] 129 (0, 0))) (h2 : h rt = some (.cells #[.string tag] 9 (0, 0))) (h3 : h r = some (mapO l)) (hk : MapOk MkKey l) (hg : ∀ m : Mk, (mget l m.v).isSome ↔ m ∈ s) {n : Mk} (hn : GoodM n) (v : Value) :
    MksInv rm rt tag (s ++ [n]) (h.set r (mapO (mset l n.v v))) := by
  have e1 : rm ≠ r := ne_of_obj h1 h3 (by simp [mapO])
  have e2 : rt ≠ r := ne_of_obj h2 h3 (by simp [mapO])
  refine ⟨r, _, (Mem.set_ne e1).trans h1, (Mem.set_ne e2).trans h2, Mem.set_at _ _ _, hk.set ⟨n, hn, rfl⟩ v, fun m => ?_⟩
  rw [mget_mset, List.mem_append, List.mem_singleton]
  by_cases e : m = n
  · simp [e]
  · rw [if_neg fun k => e (Mk.v_inj k), hg]; simp [e]
theorem MkKey.ok {ti : TI} {fs : List (Nat × TypeId)} (e : ti.kind = .strct fs) {l : List (Value × Value)} (h : MapOk MkKey l) : MapOk (keyOk Tryz.prog 116 ti) l := h.weaken fun v hv => by
  obtain ⟨m, hm, rfl⟩ := hv
  unfold keyOk
  rw [e]
  exact ⟨mk_law, mk_keyOf hm⟩
theorem MkKey.one {ti : TI} {fs : List (Nat × TypeId)} (e : ti.kind = .strct fs) {m : Mk} (h : GoodM m) : keyOk Tryz.prog 116 ti m.v := by
  unfold keyOk
  rw [e]
  exact ⟨mk_law, mk_keyOf h⟩
theorem AddAbsence1_spec {rm rt : Nat} {tag : ByteArray} {s : List Mk} {h : Mem} {n : Int} (hn : GoodM ⟨n, tag⟩) (H : MksInv rm rt tag s h) : SpecH Tryz.prog 94 [.int .i64 n, .pointer (some ⟨rm, 0, none⟩), .pointer (some ⟨rt, 0, none⟩)] μ h fun r μ' h' => r = .tuple #[] ∧ μ' = μ ∧ MksInv rm rt tag (s ++ [⟨n, tag⟩]) h' := by
  obtain ⟨r, l, h1, h2, h3, hk, hg⟩ := H
  refine SpecH.mk [] Tryz.func94 (by kernel_rfl) ?_
  refine own_intro [.map (some r)] rfl (box_at h1) ?_
  refine own_intro [.string tag] rfl (box_at h2) ?_
  refine upd_intro l h3 (MkKey.ok rfl hk) (MkKey.one rfl hn) ?_
  exact ret_plain ⟨rfl, rfl, MksInv.put h1 h2 h3 hk hg hn _⟩
end
section
variable {μ h0 : Mem} {r : Nat} {ty : TypeId} {rest : List Value}
theorem AddAbsence2_spec {rs n cap i j : Nat} {d : Array Mk} (hs : h0 rs = some (.cells #[.slice (some ⟨r, 0, none⟩) n cap] 26 (0, 0))) (hne : rs ≠ r) (hn : d.size = n) (hi : i < n) (hj : j < n) :
    SpecH Tryz.prog 96 [.int .i64 i, .int .i64 j, .pointer (some ⟨rs, 0, none⟩)] μ (RowV h0 r ty rest (d.map Mk.v)) fun v μ' h' => v = .bool (ltM d[i]! d[j]!) ∧ μ' = μ ∧ h' = RowV h0 r ty rest (d.map Mk.v) := by
  have hE : Els 2 (d.map Mk.v) := fun x hx => mks_els d.toList x (by simpa using hx)
  have hrs : RowV h0 r ty rest (d.map Mk.v) rs = some (.cells #[.slice (some ⟨r, 0, none⟩) n cap] 26 (0, 0)) := (Mem.set_ne hne).trans hs
  have rd : ∀ k, k < n → ∀ c v, [.int .i64 d[k]!.var, .string d[k]!.tag][c]? = some v → (RowV h0 r ty rest (d.map Mk.v)).cell ((⟨r, k * 2, none⟩ : Addr).add c) = some v := fun k hk c v hv => by
    rw [Addr.add_lit']
    refine RowV.cell hE (by simpa [hn] using hk) ?_
    rw [map_get (by omega)]
    exact hv
  refine SpecH.mk [] Tryz.func96 (by kernel_rfl) ?_
  refine own_intro [.slice (some ⟨r, 0, none⟩) n cap] rfl (box_at hrs) ?_
  refine idxV i rfl hi ?_
  refine own_intro [.int .i64 d[i]!.var, .string d[i]!.tag] rfl (rd i hi) ?_
  refine own_intro [.slice (some ⟨r, 0, none⟩) n cap] rfl (box_at hrs) ?_
  refine idxV j rfl hj ?_
  refine own_intro [.int .i64 d[j]!.var, .string d[j]!.tag] rfl (rd j hj) ?_
  refine call_gives (beforeMark_spec d[i]! d[j]!) ?_
  exact ret_plain ⟨rfl, rfl, rfl⟩
end
end Go.Vx

/- Contracts: a mark asked of a term, the program's side. -/
namespace Go.Vx
open Go.Proofs Classical
open Go.Sort
theorem Apart.at_none {μ h : Mem} (hap : Apart μ h) {r : Nat} {o : Obj} (e : h r = some o) : μ r = none := by
  cases e1 : μ r with
  | none => rfl
  | some o => have := hap r (by simp [e1]); rw [e] at this; cases this
theorem foldl_mks (tag : ByteArray) : ∀ (l : List Int) (s : List Mk), l.foldl (fun s n => s ++ [⟨n, tag⟩]) s = s ++ l.map fun n => ⟨n, tag⟩
  | [], s => by simp
  | a :: l, s => by rw [List.foldl_cons, foldl_mks tag l]; simp
section
variable {μ : Mem}
set_option maxHeartbeats 8000000 in
theorem impl_AddAbsence_spec {s : List Bd} {l : List Mk} {t : Tm} {v : Value} {tag : ByteArray} {base base2 : Option Addr} {cap cap2 : Nat} (hs : Sl μ 5 base s.length (s.map Bd.d)) (hl : RepV μ (.sl 2 (l.map Mk.d)) (.slice base2 l.length cap2)) (ht : RepV μ t.d v) (hn : l.length ≤ 100000000000) :
    Spec Tryz.prog 28 [.slice base s.length cap, .slice base2 l.length cap2, v, .string tag] μ fun r μ' => optMk (fun y tv => Fresh μ μ' (.sl 2 (y.map Mk.d)) tv) (addM s l t tag) r := by
  obtain ⟨pt, rfl⟩ := Tm.invV ht
  have hl0 := hl
  obtain ⟨bq, cq, eq1, hslq⟩ := Rep.sl hl
  rw [List.length_map] at hslq eq1
  obtain ⟨rfl, _, rfl⟩ := Value.slice.inj eq1
  refine Spec.mkO [7, 12, 48, 15, 61] Tryz.func28 (by kernel_rfl) ?_
  intro r6 r7 hm7 ho7
  generalize hh : Mem.set _ r7 _ = H7
  have hC7 : H7 r7 = some (.cells #[.string tag] 9 (0, 0)) := by rw [← hh]; exact Mem.set_at _ _ _
  have hap7 : Apart μ H7 := by rw [← hh]; exact (apart_nil μ).set hm7
  clear hh hm7 ho7
  refine call_gives (impl_SubstOk_spec hs) ?_
  refine ifnd (fun h => ret_plain (by rw [addM, if_neg fun k => h k.1]; rfl)) (fun h1 => ?_)
  refine call_gives (impl_TermOk_spec t ht) ?_
  refine ifnd (fun h => ret_plain (by rw [addM, if_neg fun k => h k.2.1]; rfl)) (fun h2 => ?_)
  refine call_gives (impl_MarksOk_spec hslq) ?_
  refine ifnd (fun h => ret_plain (by rw [addM, if_neg fun k => h k.2.2.1]; rfl)) (fun hk => ?_)
  refine own_intro [.string tag] rfl (box_at hC7) ?_
  refine call_gives (impl_IsName_spec _ _) ?_
  refine ifnd (fun h => ret_plain (by rw [addM, if_neg fun k => h k.2.2.2]; rfl)) (fun hnm => ?_)
  have hadd : addM s l t tag = (fit (t.toT.subst (sub (s.map Bd.b)))).bind fun x => addM1 l x tag := by rw [addM, if_pos ⟨h1, h2, hk, hnm⟩]
  rw [hadd]
  have hxg := fun x => appl_good (x := x) h1 h2
  clear hadd
  obtain ⟨x0, _, rfl⟩ := h2.lift
  obtain ⟨bs, rfl, hbs⟩ := h1.subst
  rw [List.length_map] at hs ⊢
  rw [T.toT_tm, B.map_b] at hxg ⊢
  have hlen := hbs.vals.len
  refine call_data hap7 (put_spec x0 hbs.vals.srt (by omega) hbs.vals.tok hs ht) fun v1 μ1 hle1 hap1 hR => ?_
  cases hf : fit (x0.subst (sub bs)) with
  | none =>
    rw [hf] at hR
    obtain rfl := hR
    intro r10
    refine if_intro (fun _ => ?_) (fun h => nomatch h)
    exact ret_plain rfl
  | some x =>
    rw [hf] at hR
    rw [Option.bind_some]
    obtain ⟨tv, rfl, htv⟩ := hR
    have hxok := hxg x hf
    have hxs : x.vars.length ≤ 5000 := by
      have h5 := (fit_some.1 hf).1
      have h6 := (fit_some.1 hf).2
      have := T.vars_size x
      rw [h6] at h5
      omega
    have htr := htv.rep
    obtain ⟨qb, qc, rfl, _⟩ := T.inv htr
    intro r10
    refine if_intro (fun h => nomatch h) (fun _ => ?_)
    refine own_intro [.string tag] rfl (box_at hC7) ?_
    refine call_gives (hasSymbol_spec tag x htr) ?_
    refine ifd (fun h => ret_plain (by rw [addM1, if_pos h]; rfl)) (fun hns => ?_)
    have hfin : addM1 l x tag = some (ascOf cMk_ord (l ++ mksOf x tag)) := if_neg hns
    rw [hfin]
    intro r48 hm48 ho48 r12 hm12 ho12
    refine sto_intro [.map none] 129 (Mem.set_at _ _ _) rfl (Nat.le_refl _) ?_
    dsimp only at hm48 ho48 hm12 ho12
    have n1 : r48 ≠ r12 := fun e => by subst e; simp [Mem.set_get] at ho12
    have n2 : r7 ≠ r48 := ne_of_none hC7 ho48
    have n3 : r7 ≠ r12 := fun e => by
      subst e
      rw [Mem.set_ne n2, hC7] at ho12; cases ho12
    generalize hh : Mem.set (Mem.set _ r12 _) r12 _ = h0
    have H0 : MksInv r12 r7 tag [] h0 := by
      subst hh
      refine ⟨r48, [], ?_, ?_, ?_, MapOk.nil, fun n => by simp [mget]⟩
      · rw [Mem.set_at]; rfl
      · dsimp only; rw [Mem.set_ne n3, Mem.set_ne n3, Mem.set_ne n2]; exact hC7
      · dsimp only; rw [Mem.set_ne n1, Mem.set_ne n1, Mem.set_at]
    have hapH : Apart μ1 h0 := by
      subst hh
      exact ((hap1.set hm48).set hm12).set hm12
    clear hh hm48 ho48 hm12 ho12 n1 n2 n3 hC7
    refine loop_intro (fun q : Nat × Mem => q.1 ≤ l.length ∧ Apart μ1 q.2 ∧ MksInv r12 r7 tag (l.take q.1) q.2)
      (fun (i, h) => ⟨[(7, .val (.pointer (some ⟨r7, 0, none⟩))), (10, .loc 1 r10 0), (12, .val (.pointer (some ⟨r12, 0, none⟩))), (49, .val (.slice base2 l.length cap2)), (50, .val (.int .i64 l.length)), (51, .val (.int .i64 i))], [(1, some (.cells r10 [.val (.int .i64 x.tm.kind), .val (.int .i64 x.tm.num), .val (.string x.tm.name), .val (.slice qb x.args.length qc)] 44))], 2, μ1, h⟩) (fun q => l.length - q.1)
      (0, h0) ⟨Nat.zero_le _, hapH, by simpa using H0⟩ (fun (_, _) => ⟨rfl, rfl⟩) ⟨⟨rfl, rfl, rfl, rfl, rfl, rfl, trivial⟩, ⟨rfl, trivial⟩, rfl, rfl⟩ ?_
    clear hapH H0
    rintro ⟨i, h⟩ ⟨hi, hap, hJ⟩
    dsimp only at hi hap hJ
    have hgood := ((marksOk_iff l).1 hk).2
    refine ifd (fun hlt => ?_) (fun hlt => ?_)
    · obtain ⟨c, hc⟩ := at_some (l := l) (i := i) (by omega)
      obtain ⟨ad, p, hel, _⟩ := Mk.elem (hslq.mono hle1) hc
      obtain ⟨rr, ll, g1, g2, g3, g4, g5⟩ := hJ
      refine elem_intro hel ?_
      intro r14
      refine own_intro [.map (some rr)] rfl (box_at g1) ?_
      refine upd_intro ll g3 (MkKey.ok rfl g4) (MkKey.one (m := c) rfl (hgood c (mem_at hc))) ?_
      refine num64 (by omega) (by omega) ⟨(i + 1, _), ⟨by dsimp only; omega, hap.set (hap.at_none g3), ?_⟩, by dsimp only; omega, ⟨⟨rfl, rfl, rfl, rfl, rfl, rfl, trivial⟩, ⟨rfl, trivial⟩, rfl, rfl⟩⟩
      dsimp only
      rw [List.take_add_one, hc, Option.toList_some]
      exact MksInv.put g1 g2 g3 g4 g5 (hgood c (mem_at hc)) _
    obtain rfl : i = l.length := by omega
    rw [List.take_length] at hJ
    refine call_own (eachVar_rel (MksInv r12 r7 tag) (fun s n => s ++ [⟨n, tag⟩]) (fun _ n => GoodM ⟨n, tag⟩) (fun s h n hq hj => AddAbsence1_spec hq hj) x l h htr (fun pre n post e => ⟨T.vars_range hxok n (by rw [e]; simp), hnm⟩) hJ) fun v μ2 h3 hle2 hap3 hR => ?_
    obtain ⟨rfl, e2, hJ3⟩ := hR
    obtain rfl := e2.symm
    rw [foldl_mks] at hJ3
    obtain ⟨rr, ll, g1, g2, g3, g4, g5⟩ := hJ3
    obtain ⟨ks, hks, hnd⟩ := keys_marks g4
    have hkm : ∀ m, m ∈ ks ↔ m ∈ l ++ mksOf x tag := fun m => (mget_marks hks m).symm.trans (g5 m)
    have hkl : ks.length = ll.length := by
      have := congrArg List.length hks
      simpa using this.symm
    have hll : ll.length ≤ 100000005000 := by
      have hp : ks.Perm (ascOf cMk_ord (l ++ mksOf x tag)) := (List.perm_ext_iff_of_nodup hnd ((ascOf_asc cMk_ord _).nodup cMk_ord)).2 fun m => by rw [hkm, ascOf_mem]
      have h7 := hp.length_eq
      have h8 := ascOf_len cMk_ord (l ++ mksOf x tag)
      have h9 : (mksOf x tag).length = x.vars.length := by simp [mksOf]
      rw [List.length_append] at h8
      omega
    clear hJ hap
    intro r61 hm61 ho61 r15 hm15 ho15
    refine sto_intro [.slice none 0 0] 26 (Mem.set_at _ _ _) rfl (Nat.le_refl _) ?_
    dsimp only at hm61 ho61 hm15 ho15
    have n1 : r61 ≠ r15 := fun e => by subst e; simp [Mem.set_get] at ho15
    have n2 : r12 ≠ r61 := ne_of_none g1 ho61
    have n3 : rr ≠ r61 := ne_of_none g3 ho61
    have n4 : r12 ≠ r15 := fun e => by subst e; rw [Mem.set_ne n2, g1] at ho15; cases ho15
    have n5 : rr ≠ r15 := fun e => by subst e; rw [Mem.set_ne n3, g3] at ho15; cases ho15
    generalize hh : Mem.set (Mem.set _ r15 _) r15 _ = h5
    have hC : h5 r15 = some (.cells #[.slice (some ⟨r61, 0, none⟩) 0 0] 26 (0, 0)) := by subst hh; exact Mem.set_at _ _ _
    have hB : RowO h5 r61 0 116 2 (([] : List Mk).map Mk.v) := by
      subst hh
      refine ⟨[], by dsimp only; rw [Mem.set_ne n1, Mem.set_ne n1]; exact Mem.set_at _ _ _, by simp, by simp, by simp, rfl, rfl⟩
    have hM : h5 rr = some (mapO ll) := by subst hh; dsimp only; rw [Mem.set_ne n5, Mem.set_ne n5, Mem.set_ne n3]; exact g3
    have hM2 : h5 r12 = some (.cells #[.map (some rr)] 129 (0, 0)) := by subst hh; dsimp only; rw [Mem.set_ne n4, Mem.set_ne n4, Mem.set_ne n2]; exact g1
    have hA : Apart μ1 h5 := by subst hh; exact ((hap3.set hm61).set hm15).set hm15
    clear hh hm61 ho61 hm15 ho15 n1 n2 n3 n4 n5 g1 g2 g3 g4 g5 hap3
    refine own_intro [.map (some rr)] rfl (box_at hM2) ?_
    refine mlen_intro ll hM ?_
    intro ri hmi hoi
    dsimp only at hmi hoi
    have n1 : r15 ≠ ri := ne_of_none hC hoi
    have n2 : rr ≠ ri := ne_of_none hM hoi
    have n3 : r61 ≠ ri := fun e => by
      obtain ⟨cs, hcell, _⟩ := hB
      subst e; rw [hoi] at hcell; cases hcell
    refine loop_intro (fun q : List Nat × Nat × Nat × Mem => q.1.Nodup ∧ (∀ j ∈ q.1, j < ll.length) ∧ Apart μ1 q.2.2.2 ∧ q.2.2.2 r15 = some (.cells #[.slice (some ⟨q.2.1, 0, none⟩) q.1.length q.2.2.1] 26 (0, 0)) ∧ RowO q.2.2.2 q.2.1 q.2.2.1 116 2 ((q.1.map fun j => ks.getD j default).map Mk.v) ∧ q.2.2.2 ri = some (iterO rr ll.length q.1 ll.length) ∧ q.2.2.2 rr = some (mapO ll))
      (fun (_, _, _, h) => ⟨[(15, .val (.pointer (some ⟨r15, 0, none⟩))), (63, .val (.pointer (some ⟨ri, 0, none⟩)))], [], 2, μ1, h⟩) (fun q => ll.length - q.1.length)
      ([], r61, 0, Mem.set h5 ri (iterO rr ll.length [] ll.length)) ⟨by simp, by simp, hA.set hmi, (Mem.set_ne n1).trans hC, hB.set_ne n3, Mem.set_at _ _ _, (Mem.set_ne n2).trans hM⟩ (fun (_, _, _, _) => ⟨rfl, rfl⟩) ⟨⟨rfl, rfl, trivial⟩, trivial, rfl, rfl⟩ ?_
    clear hC hB hM hM2 hA n1 n2 n3 hmi hoi
    rintro ⟨seen, b, c, h⟩ ⟨hsn, hsl, hA, hC, hB, hI, hM⟩
    dsimp only at hsn hsl hA hC hB hI hM
    have hslen := nodup_len hsn hsl
    have n1 : r15 ≠ ri := ne_of_obj hC hI (by simp [iterO])
    have n2 : rr ≠ ri := ne_of_obj hM hI (by simp [iterO, mapO])
    have n4 : r15 ≠ rr := ne_of_obj hC hM (by simp [mapO])
    obtain ⟨n3, n5, n6⟩ : b ≠ ri ∧ b ≠ r15 ∧ b ≠ rr := by
      obtain ⟨cs, hcell, _⟩ := hB
      exact ⟨ne_of_obj hcell hI (by simp [iterO]), ne_of_obj hcell hC (by simp), ne_of_obj hcell hM (by simp [mapO])⟩
    refine next_intro rr seen ll.length ll hI hM (Nat.le_refl _) (fun hall => ?_) (fun j k v hj hns => ?_)
    rotate_left
    · have hjl := (List.getElem?_eq_some_iff.1 hj).1
      obtain ⟨q, hq⟩ : ∃ q, q = ks.getD j default := ⟨_, rfl⟩
      have hkj : k = q.v := by
        have h1 : (ll.map Prod.fst)[j]? = some k := by simp [hj]
        rw [hks, List.getElem?_map] at h1
        have h2 : j < ks.length := by omega
        rw [getG_at h2, ← hq] at h1
        simp only [Option.map_some, Option.some.injEq] at h1
        exact h1.symm
      subst hkj
      refine if_intro (fun _ => ?_) (fun h => nomatch h)
      refine ent_intro rr ll.length seen j ll _ v (Mem.set_at _ _ _) ((Mem.set_ne n2).trans hM) hj ?_
      intro r16
      refine own_intro [.slice (some ⟨b, 0, none⟩) seen.length c] rfl (box_at ((Mem.set_ne n1).trans hC)) ?_
      intro r70
      refine app_intro ((seen.map fun j => ks.getD j default).map Mk.v) (by simp) (hB.set_ne n3) ?_ ?_ fun b2 c2 o2 hrow2 hor2 => ?_
      · show (seen.length + 1) * 24 ≤ _; omega
      · exact Nat.le_trans (m := 2000000000000) (show seen.length + 1 ≤ _ by omega) (by decide)
      have hsl2 : ∀ i ∈ seen ++ [j], i < ll.length := fun i hi => by
        rcases List.mem_append.1 hi with hi | hi
        · exact hsl i hi
        · rw [List.mem_singleton] at hi; subst hi; exact hjl
      have hsn2 : (seen ++ [j]).Nodup := by
        rw [List.nodup_append]
        refine ⟨hsn, by simp, fun a ha b hb e => ?_⟩
        rw [List.mem_singleton] at hb
        subst hb; subst e; exact hns ha
      have hs3 := nodup_len hsn2 hsl2
      rw [List.length_append, List.length_singleton] at hs3
      have m15 : r15 ≠ b2 := fun e => by
        rcases hor2 with e2 | ⟨e2, _⟩
        · exact n5 (e2.symm.trans e.symm)
        · have e2 : (Mem.set h ri _) b2 = none := e2
          rw [← e, Mem.set_ne n1, hC] at e2; cases e2
      have mi : ri ≠ b2 := fun e => by
        rcases hor2 with e2 | ⟨e2, _⟩
        · exact n3 (e2.symm.trans e.symm)
        · have e2 : (Mem.set h ri _) b2 = none := e2
          rw [← e, Mem.set_at] at e2; cases e2
      have mr : rr ≠ b2 := fun e => by
        rcases hor2 with e2 | ⟨e2, _⟩
        · exact n6 (e2.symm.trans e.symm)
        · have e2 : (Mem.set h ri _) b2 = none := e2
          rw [← e, Mem.set_ne n2, hM] at e2; cases e2
      have hb2 : μ1 b2 = none := by
        rcases hor2 with e2 | ⟨_, e2⟩
        · obtain ⟨cs, hcell, _⟩ := hB
          rw [e2]; exact hA.at_none hcell
        · exact e2
      refine sto_intro [.slice (some ⟨b, 0, none⟩) seen.length c] 26 ((Mem.set_ne m15).trans ((Mem.set_ne n1).trans hC)) rfl (Nat.le_refl _) ?_
      refine ⟨(seen ++ [j], b2, c2, _), ⟨hsn2, hsl2, ((hA.set (hA.at_none hI)).set hb2).set (hA.at_none hC), ?_, ?_, ?_, ?_⟩, by dsimp only; rw [List.length_append, List.length_singleton]; omega, ⟨⟨rfl, rfl, trivial⟩, trivial, rfl, rfl⟩⟩
      · dsimp only
        rw [List.length_append, List.length_singleton]
        exact Mem.set_at _ _ _
      · dsimp only
        rw [List.map_append, List.map_append]
        refine RowO.set_ne ?_ m15.symm
        rw [List.map_singleton, ← hq]
        exact hrow2
      · exact (Mem.set_ne n1.symm).trans ((Mem.set_ne mi).trans (Mem.set_at _ _ _))
      · exact (Mem.set_ne n4.symm).trans ((Mem.set_ne mr).trans ((Mem.set_ne n2).trans hM))
    refine if_intro (fun h => nomatch h) (fun _ => ?_)
    have hp := pickedG hnd hsn (by rw [hkl]; exact hsl)
    have hpm := pickedG_mem (by rw [hkl]; exact hsl) (by rw [hkl]; exact hall) (ks := ks) (seen := seen)
    have hDs : (seen.map (fun j => ks.getD j default)).length = seen.length := by simp
    generalize seen.map (fun j => ks.getD j default) = D at *
    rw [← hDs] at hC
    have hD6 : D.length ≤ 1000000000000 := by omega
    obtain ⟨cs, hcell, hlen0, hcap0, hone, hcs, htake⟩ := hB
    obtain ⟨rest, rfl⟩ : ∃ rest, cs = (D.map Mk.v).flatMap vcells ++ rest := by
      refine ⟨cs.drop ((D.map Mk.v).length * 2), ?_⟩
      conv => lhs; rw [← List.take_append_drop ((D.map Mk.v).length * 2) cs, htake]
    obtain ⟨h0, hh0, hh1, hsplit⟩ : ∃ h0 : Mem, h0 b = none ∧ h0 r15 = h r15 ∧ h = RowV h0 b 116 rest (D.toArray.map Mk.v) := by
      refine ⟨fun q => if q = b then none else h q, if_pos rfl, if_neg n5.symm, funext fun q => ?_⟩
      rw [RowV, Mem.set_get]
      by_cases e : q = b
      · subst e; rw [if_pos rfl, hcell]; simp
      · rw [if_neg e, if_neg e]
    rw [hC] at hh1
    have hC4 : RowV h0 b 116 rest (D.toArray.map Mk.v) r15 = some (.cells #[.slice (some ⟨b, 0, none⟩) D.length c] 26 (0, 0)) := (Mem.set_ne n5.symm).trans hh1
    clear hcell
    subst hsplit
    refine own_intro [.slice (some ⟨b, 0, none⟩) D.length c] rfl (box_at hC4) ?_
    have hsz : D.toArray.size = D.length := by simp
    have hE : Els 2 (D.toArray.map Mk.v) := fun z hz => mks_els D z (by simpa using hz)
    refine call_own (SortSlice_spec (lb := [.pointer (some ⟨r15, 0, none⟩)]) (enc := Mk.v) slMark (ttok.get rfl) (fun h => nomatch h) hE hsz (by omega) swo_ltM fun {μ' d i j} _ hV hi hj => AddAbsence2_spec hh1 n5.symm (hV.1.trans hsz) hi hj) fun v5 μ2 h2' hle2 hap2 hR5 => ?_
    obtain ⟨rfl, d', p1, p2, rfl⟩ := hR5
    have hC5 : RowV h0 b 116 rest (d'.map Mk.v) r15 = some (.cells #[.slice (some ⟨b, 0, none⟩) D.length c] 26 (0, 0)) := (Mem.set_ne n5.symm).trans hh1
    refine own_intro [.slice (some ⟨b, 0, none⟩) D.length c] rfl (box_at hC5) ?_
    have hds : d'.size = D.length := p1.1.trans hsz
    have hperm : d'.toList.Perm D := permIn_list hsz p1
    have hdn : d'.toList.Nodup := hperm.nodup_iff.2 hp
    have hS : d'.toList = ascOf cMk_ord (l ++ mksOf x tag) := by
      refine ascOf_eq cMk_ord ?_ fun m => hperm.mem_iff.trans ((hpm m).trans (hkm m))
      rw [Asc3, List.pairwise_iff_getElem]
      intro a b' ha hb' hab
      rw [List.nodup_iff_pairwise_ne, List.pairwise_iff_getElem] at hdn
      have hne := hdn a b' ha hb' hab
      have ha : a < d'.size := by simpa using ha
      have hb' : b' < d'.size := by simpa using hb'
      have := p2 a b' (Nat.zero_le _) hab (by omega)
      rw [getElem!_pos d' a (by omega), getElem!_pos d' b' (by omega)] at this
      simp only [ltM, decide_eq_false_iff_not] at this
      simp only [Array.getElem_toList] at hne ⊢
      exact cMk_ord.ge_pos this fun e => hne ((cMk_ord.zero _ _).1 e).symm
    rw [← hS]
    refine ret_own _ Mem.nil (Parts.nil_right _) ?_
    refine ⟨_, rfl, ?_⟩
    have hdl : d'.toList.length = D.length := by simpa using hds
    have hB6 : RowO (RowV h0 b 116 rest (d'.map Mk.v)) b c 116 2 (d'.toList.map Mk.v) := by
      have h5 : ((D.map Mk.v).flatMap vcells).length = (D.map Mk.v).length * 2 := flat_len _ fun z hz => (mks_els _ z hz).1
      have h6 : ((d'.toList.map Mk.v).flatMap vcells).length = (d'.toList.map Mk.v).length * 2 := flat_len _ fun z hz => (mks_els _ z hz).1
      have h7 : (d'.toList.map Mk.v).length = (D.map Mk.v).length := by
        rw [List.length_map, List.length_map]; exact hperm.length_eq
      refine ⟨(d'.toList.map Mk.v).flatMap vcells ++ rest, by rw [RowV, Mem.set_at]; simp, by rw [h7]; exact hlen0, hcap0, mks_els _, ?_, ?_⟩
      · rw [List.length_append] at hcs ⊢; omega
      · rw [← h6, List.take_left]
    have F := mks_fresh (μ := μ) hB6 hap2 (hle1.trans hle2) (by rw [hdl]; omega)
    rw [hdl] at F
    exact F
end
end Go.Vx

/- Contracts: marks asked of a term and brought up to date: both sides. -/
namespace Go.Vx
open Go.Proofs Classical
section
variable {μ : Mem}
theorem spec_AddAbsence_spec {s : List Bd} {l : List Mk} {t : Tm} {v : Value} {tag : ByteArray} {base base2 : Option Addr} {cap cap2 : Nat} (hs : Sl μ 5 base s.length (s.map Bd.d)) (hws : D.wds (s.map Bd.d)) (hl : RepV μ (.sl 2 (l.map Mk.d)) (.slice base2 l.length cap2)) (hwl : D.wds (l.map Mk.d)) (ht : RepV μ t.d v) (hwt : t.d.wd) (htag : tag.size ≤ maxLen) (hn : l.length ≤ 100000000000) :
    Spec Tryz.prog 26 [.slice base s.length cap, .slice base2 l.length cap2, v, .string tag] μ fun r μ' => optMk (fun y tv => RepV μ' (.sl 2 (y.map Mk.d)) tv) (addM s l t tag) r := by
  obtain ⟨pt, rfl⟩ := Tm.invV ht
  refine Spec.mk Tryz.func26 (by kernel_rfl) ?_
  intro r6
  refine call_plain (spec_ApplySubst_spec hs hws ht hwt) fun v1 μ1 hle1 hR => ?_
  cases hf : appl s t with
  | none =>
    rw [hf] at hR
    obtain rfl := hR
    intro r10
    refine if_intro (fun _ => ?_) (fun h => nomatch h)
    refine ret_plain ?_
    have : addM s l t tag = none := by
      unfold addM
      split
      · rename_i h
        have e : appl s t = fit (t.toT.subst (sub (s.map Bd.b))) := by rw [appl, if_pos ⟨h.1, h.2.1⟩]
        rw [← e, hf]; rfl
      · rfl
    rw [this]; rfl
  | some x =>
    rw [hf] at hR
    obtain ⟨tv, rfl, htv⟩ := hR
    obtain ⟨q, rfl⟩ := Tm.invV htv
    intro r10
    refine if_intro (fun h => nomatch h) (fun _ => ?_)
    have hst : substOk s ∧ t.Ok ∧ fit (t.toT.subst (sub (s.map Bd.b))) = some x := by
      unfold appl at hf
      split at hf
      · rename_i h; exact ⟨h.1, h.2, hf⟩
      · cases hf
    have hlm := hl.mono hle1
    obtain ⟨bq, cq, eq1, hslq⟩ := Rep.sl hlm
    rw [List.length_map] at hslq eq1
    obtain ⟨rfl, _, rfl⟩ := Value.slice.inj eq1
    refine call_gives (spec_MarksOk_spec hslq hwl) ?_
    refine ifnd (fun h => ret_plain (by rw [addM, if_neg fun k => h k.2.2.1]; rfl)) (fun hk => ?_)
    refine call_gives (spec_IsName_spec _ htag _) ?_
    refine ifnd (fun h => ret_plain (by rw [addM, if_neg fun k => h k.2.2.2]; rfl)) (fun hnm => ?_)
    have hadd : addM s l t tag = addM1 l x tag := by rw [addM, if_pos ⟨hst.1, hst.2.1, hk, hnm⟩, hst.2.2]; rfl
    rw [hadd]
    have hxs : x.vars.length ≤ 5000 := by
      have h5 := (fit_some.1 hst.2.2).1
      have h6 := (fit_some.1 hst.2.2).2
      have := T.vars_size x
      rw [h6] at h5
      omega
    refine call_plain (l10Mark_spec hlm htv ((marksOk_iff l).1 hk).1 (by omega) (by omega)) fun v2 μ2 hle2 hR2 => ?_
    cases ha : addM1 l x tag with
    | none =>
      rw [ha] at hR2
      obtain rfl := hR2
      refine if_intro (fun _ => ?_) (fun h => nomatch h)
      exact ret_plain rfl
    | some l' =>
      rw [ha] at hR2
      obtain ⟨tv2, rfl, hR2⟩ := hR2
      refine if_intro (fun h => nomatch h) (fun _ => ?_)
      obtain ⟨b9, c9, rfl, hs9⟩ := Rep.sl hR2
      rw [List.length_map] at hs9 hR2 ⊢
      obtain ⟨vs, hrows, hvl, hsrc⟩ := Rep.srcAll hR2
      intro r44
      refine src_intro _ hsrc ?_
      have hl' := addM1_len ha
      refine grow_intro ?_ ?_ fun b1 c1 _ => ?_
      · show (0 + _) * 24 ≤ _; simp; omega
      · exact Nat.le_trans (m := 2000000000000) (by simp; omega) (by decide)
      refine ret_frz [2] fun μ' hle hno hrow => .inl ⟨_, rfl, ?_⟩
      exact Rows.sl hrow (hrows.mono hle) (Nat.le_trans (m := 3000000000000) (by simp; omega) (by decide))
end
end Go.Vx

/- The laws on marks. -/
namespace Go.Vx
open Go.Proofs Classical
section
variable {μ : Mem}
theorem mks_cnt : ∀ l : List Mk, D.cnts (l.map Mk.d) = 2 * l.length
  | [] => rfl
  | k :: l => by
    simp only [List.map_cons, D.cnts, List.length_cons]
    rw [Mk.cnt_eq, mks_cnt l]; omega
def resMk (o : Option (List Mk)) : List Mk := o.getD []
theorem optMk_rep {μ : Mem} {o : Option (List Mk)} {v : Value} (h : optMk (fun y tv => RepV μ (.sl 2 (y.map Mk.d)) tv) o v) : ∃ tv, v = .tuple #[tv, .bool o.isSome] ∧ RepV μ (.sl 2 ((resMk o).map Mk.d)) tv := by
  cases o with
  | some y => obtain ⟨tv, rfl, h⟩ := h; exact ⟨tv, rfl, h⟩
  | none => exact ⟨_, h, OwnV.rep (h := Mem.nil) (Own.nilSl 2) (fun _ _ h => nomatch h)⟩
theorem optMk_fresh {μ μ' : Mem} {o : Option (List Mk)} {v : Value} (h : optMk (fun y tv => Fresh μ μ' (.sl 2 (y.map Mk.d)) tv) o v) : ∃ tv, v = .tuple #[tv, .bool o.isSome] ∧ Fresh μ μ' (.sl 2 ((resMk o).map Mk.d)) tv := by
  cases o with
  | some y => obtain ⟨tv, rfl, h⟩ := h; exact ⟨tv, rfl, h⟩
  | none => exact ⟨_, h, Mem.nil, Own.nilSl 2, (fun _ _ h => nomatch h), fun _ h => absurd rfl h⟩
theorem addM_len (s : List Bd) (l : List Mk) (t : Tm) (tag : ByteArray) : (resMk (addM s l t tag)).length ≤ l.length + 5000 := by
  unfold addM
  split
  · rename_i h
    cases hf : fit (t.toT.subst (sub (s.map Bd.b))) with
    | none => simp [resMk]
    | some x =>
      rw [Option.bind_some]
      cases ha : addM1 l x tag with
      | none => simp [resMk]
      | some y =>
        have h1 := addM1_len ha
        have h5 := (fit_some.1 hf).1
        have h6 := (fit_some.1 hf).2
        have := T.vars_size x
        rw [h6] at h5
        rw [resMk, Option.getD_some]
        omega
  · simp [resMk]
set_option maxHeartbeats 4000000 in
theorem FnExactAddAbsence_spec {t0 : List Bd} {v0 : Value} {t1 : List Mk} {v1 : Value} {t2 : Tm} {v2 : Value} {tag : ByteArray} (h0 : RepV μ (.sl 5 (t0.map Bd.d)) v0) (h1 : RepV μ (.sl 2 (t1.map Mk.d)) v1) (h2 : RepV μ t2.d v2) (w0 : D.wds (t0.map Bd.d)) (w1 : D.wds (t1.map Mk.d)) (w2 : t2.d.wd) :
    Spec Tryz.prog 4 [v0, v1, v2, .string tag] μ fun r _ => r = .bool true := by
  obtain ⟨b0, c0, rfl, s0⟩ := Rep.sl h0
  rw [List.length_map] at s0 ⊢
  obtain ⟨b1, c1, rfl, s1⟩ := Rep.sl h1
  rw [List.length_map] at s1 ⊢
  obtain ⟨p2, rfl⟩ := Tm.invV h2
  refine Spec.mk Tryz.func4 (by kernel_rfl) ?_
  intro r0
  refine ifd (fun h => ret_plain rfl) (fun h => ?_)
  refine call_gives (szBindingS_spec s0 (by omega) (by omega) w0) ?_
  refine ifd (fun h => ret_plain rfl) (fun h => ?_)
  have q0 := szR_ge h
  rw [szR_pos q0] at h ⊢
  refine call_gives (szMarkS_spec s1 (by omega) (by omega) w1) ?_
  refine ifd (fun h => ret_plain rfl) (fun h => ?_)
  have q1 := szR_ge h
  rw [szR_pos q1] at h ⊢
  refine call_gives (szTerm_spec t2 h2 (by omega) (by omega) w2) ?_
  refine ifd (fun h => ret_plain rfl) (fun h => ?_)
  have q2 := szR_ge h
  rw [szR_pos q2] at h
  have hb0 : t0.length + D.szs (t0.map Bd.d) ≤ 1048576 := by omega
  have hb1 : t1.length + D.szs (t1.map Mk.d) ≤ 1048576 := by omega
  have hb2 : t2.d.sz ≤ 1048576 := by omega
  refine call_plain (toBindingS_spec s0 hb0) fun u1 μ1 hle1 hf1 => ?_
  replace s0 := s0.mono hle1
  replace s1 := s1.mono hle1
  replace h2 := h2.mono hle1
  obtain ⟨bb2, cc2, rfl, a0⟩ := Rep.sl hf1.rep
  rw [List.length_map] at a0 ⊢
  refine call_plain (toMarkS_spec s1 hb1) fun u3 μ3 hle3 hf3 => ?_
  replace s0 := s0.mono hle3
  replace s1 := s1.mono hle3
  replace h2 := h2.mono hle3
  replace a0 := a0.mono hle3
  obtain ⟨bb4, cc4, rfl, a1⟩ := Rep.sl hf3.rep
  rw [List.length_map] at a1 ⊢
  have a1r := hf3.rep
  rw [List.length_map] at a1r
  refine call_plain (toTerm_spec t2 h2 hb2) fun u5 μ5 hle5 hf5 => ?_
  replace s0 := s0.mono hle5
  replace s1 := s1.mono hle5
  replace h2 := h2.mono hle5
  replace a0 := a0.mono hle5
  replace a1 := a1.mono hle5
  replace a1r := a1r.mono hle5
  obtain ⟨qq6, rfl⟩ := Tm.invV hf5.rep
  have a2 := hf5.rep
  refine call_plain (spec_AddAbsence_spec (tag := tag) a0 w0 a1r w1 a2 w2 (Nat.le_trans (m := 1048576) (by omega) (by decide)) (by omega)) fun u7 μ7 hle7 hR => ?_
  replace s0 := s0.mono hle7
  replace s1 := s1.mono hle7
  replace h2 := h2.mono hle7
  replace a0 := a0.mono hle7
  replace a1 := a1.mono hle7
  replace a1r := a1r.mono hle7
  replace a2 := a2.mono hle7
  obtain ⟨w0, rfl, hw0⟩ := optMk_rep hR
  obtain ⟨bb8, cc8, rfl, hw⟩ := Rep.sl hw0
  rw [List.length_map] at hw ⊢
  refine call_new id (apart_nil _) Owns.none ((toBindingS_spec (s0.mono (Mem.le_join _ _)) hb0).weaken fun v μ' _ h => ⟨v, rfl, h⟩) fun x0 μ9 H9 hle9 hap9 ho9 => ?_
  replace s0 := s0.mono hle9
  replace s1 := s1.mono hle9
  replace h2 := h2.mono hle9
  replace hw := hw.mono hle9
  obtain ⟨bb10, cc10, rfl, xx0⟩ := Rep.sl (Owns.rep (l1 := []) hap9 ho9)
  rw [List.length_map] at xx0 ho9 ⊢
  refine call_new id hap9 ho9 ((toMarkS_spec (s1.mono (Mem.le_join _ _)) hb1).weaken fun v μ' _ h => ⟨v, rfl, h⟩) fun x1 μ11 H11 hle11 hap11 ho11 => ?_
  replace s0 := s0.mono hle11
  replace s1 := s1.mono hle11
  replace h2 := h2.mono hle11
  replace hw := hw.mono hle11
  obtain ⟨bb12, cc12, rfl, xx1⟩ := Rep.sl (Owns.rep (l1 := [_]) hap11 ho11)
  rw [List.length_map] at xx1 ho11 ⊢
  refine call_new id hap11 ho11 ((toTerm_spec t2 (h2.mono (Mem.le_join _ _)) hb2).weaken fun v μ' _ h => ⟨v, rfl, h⟩) fun x2 μ13 H13 hle13 hap13 ho13 => ?_
  replace s0 := s0.mono hle13
  replace s1 := s1.mono hle13
  replace h2 := h2.mono hle13
  replace hw := hw.mono hle13
  obtain ⟨qq14, rfl⟩ := Tm.invV (Owns.rep (l1 := [_, _]) hap13 ho13)
  have xx2 := (Owns.rep (l1 := [_, _]) hap13 ho13)
  intro rx2
  obtain ⟨bn17, cn17, en17, ya16⟩ := Rep.sl (Owns.rep (l1 := []) hap13 ho13)
  rw [List.length_map] at ya16 en17
  obtain ⟨rfl, _, rfl⟩ := Value.slice.inj en17
  have yr18 := Owns.rep (l1 := [_]) hap13 ho13
  refine call_new (fun gv => .tuple #[gv, .bool (addM t0 t1 t2 tag).isSome]) hap13 ho13 ((impl_AddAbsence_spec (tag := tag) ya16 yr18 (Owns.rep (l1 := [_, _]) hap13 ho13) (by omega)).weaken fun v μ' _ h => optMk_fresh h) fun g0 μ15 H15 hle15 hap15 ho15 => ?_
  replace s0 := s0.mono hle15
  replace s1 := s1.mono hle15
  replace h2 := h2.mono hle15
  replace hw := hw.mono hle15
  obtain ⟨bb19, cc19, rfl, gg⟩ := Rep.sl (Owns.rep (l1 := [_, _, _]) hap15 ho15)
  rw [List.length_map] at gg ho15 ⊢
  obtain ⟨bn21, cn21, en21, yg20⟩ := Rep.sl (Owns.rep (l1 := [_, _, _]) hap15 ho15)
  rw [List.length_map] at yg20 en21
  obtain ⟨rfl, _, rfl⟩ := Value.slice.inj en21
  refine call_read hap15 (eqMarkS_spec yg20 (hw.mono (Mem.le_join _ _))) ?_
  refine if_intro (fun h => nomatch h) (fun _ => ?_)
  refine if_intro (fun h => absurd h (by simp)) (fun _ => ?_)
  refine call_data hap15 (toBindingS_spec s0 hb0) fun u22 μ22 hle22 hap22 hf22 => ?_
  replace s0 := s0.mono hle22
  replace s1 := s1.mono hle22
  replace h2 := h2.mono hle22
  replace hw := hw.mono hle22
  obtain ⟨bb23, cc23, rfl, z0⟩ := Rep.sl hf22.rep
  rw [List.length_map] at z0 ⊢
  obtain ⟨bn25, cn25, en25, yb24⟩ := Rep.sl (Owns.rep (l1 := []) hap22 ho15)
  rw [List.length_map] at yb24 en25
  obtain ⟨rfl, _, rfl⟩ := Value.slice.inj en25
  refine call_read hap22 (eqBindingS_spec yb24 (z0.mono (Mem.le_join _ _))) ?_
  refine if_intro (fun h => nomatch h) (fun _ => ?_)
  refine call_data hap22 (toMarkS_spec s1 hb1) fun u26 μ26 hle26 hap26 hf26 => ?_
  replace s0 := s0.mono hle26
  replace s1 := s1.mono hle26
  replace h2 := h2.mono hle26
  replace hw := hw.mono hle26
  obtain ⟨bb27, cc27, rfl, z1⟩ := Rep.sl hf26.rep
  rw [List.length_map] at z1 ⊢
  obtain ⟨bn29, cn29, en29, yb28⟩ := Rep.sl (Owns.rep (l1 := [_]) hap26 ho15)
  rw [List.length_map] at yb28 en29
  obtain ⟨rfl, _, rfl⟩ := Value.slice.inj en29
  refine call_read hap26 (eqMarkS_spec yb28 (z1.mono (Mem.le_join _ _))) ?_
  refine if_intro (fun h => nomatch h) (fun _ => ?_)
  refine call_data hap26 (toTerm_spec t2 h2 hb2) fun u30 μ30 hle30 hap30 hf30 => ?_
  replace s0 := s0.mono hle30
  replace s1 := s1.mono hle30
  replace h2 := h2.mono hle30
  replace hw := hw.mono hle30
  refine call_read hap30 (eqTerm_spec t2 (Owns.rep (l1 := [_, _]) hap30 ho15) (hf30.rep.mono (Mem.le_join _ _))) ?_
  refine if_intro (fun h => nomatch h) (fun _ => ?_)
  have ca0 := bds_cnt t0
  have ma0 := D.mks_cnt (t0.map Bd.d) (1)
  have ca1 := mks_cnt t1
  have ma1 := D.mks_cnt (t1.map Mk.d) ((D.mks (t0.map Bd.d) (1)).2)
  have ca2 := tm_cnt_sz t2
  rw [Tm.cnt_eq] at ca2
  have ma2 := tm_mt t2 ((D.mks (t1.map Mk.d) ((D.mks (t0.map Bd.d) (1)).2)).2)
  have rz := addM_len t0 t1 t2 tag
  have rz2 := mks_cnt (resMk (addM t0 t1 t2 tag))
  have mg := D.mks_cnt ((resMk (addM t0 t1 t2 tag)).map Mk.d) 1
  refine call_mark (l1 := []) hap30 ho15 (fun hx o => markBindingS_spec o (by omega) (by omega)) fun H31 hap31 ho31 => ?_
  refine call_mark (l1 := [_]) hap31 ho31 (fun hx o => markMarkS_spec o (by omega) (by omega)) fun H32 hap32 ho32 => ?_
  refine call_mark (l1 := [_, _]) hap32 ho32 (fun hx o => markTerm_spec t2 o (by omega) (by omega)) fun H33 hap33 ho33 => ?_
  refine ifd (fun h => by omega) (fun _ => ?_)
  obtain ⟨bn35, cn35, en35, yg34⟩ := Rep.sl (Owns.rep (l1 := [_, _, _]) hap33 ho33)
  rw [List.length_map] at yg34 en35
  obtain ⟨rfl, _, rfl⟩ := Value.slice.inj en35
  refine call_read hap33 (eqMarkS_spec yg34 (hw.mono (Mem.le_join _ _))) ?_
  refine if_intro (fun h => nomatch h) (fun _ => ?_)
  refine if_intro (fun h => absurd h (by simp)) (fun _ => ?_)
  refine call_mark (l1 := [_, _, _]) hap33 ho33 (fun hx o => markMarkS_spec o (by omega) (by omega)) fun H36 hap36 ho36 => ?_
  refine call_read hap36 (heldMarkS_spec (Owns.rep (l1 := [_, _, _]) hap36 ho36) (by omega) (by omega)) ?_
  refine ifd (fun h => by omega) (fun _ => ?_)
  refine ifnd (fun h => absurd rfl h) (fun _ => ?_)
  refine call_data hap36 (toBindingS_spec s0 hb0) fun u37 μ37 hle37 hap37 hf37 => ?_
  replace s0 := s0.mono hle37
  replace s1 := s1.mono hle37
  replace h2 := h2.mono hle37
  replace hw := hw.mono hle37
  obtain ⟨bb38, cc38, rfl, o0⟩ := Rep.sl hf37.rep
  rw [List.length_map] at o0 ⊢
  refine call_data hap37 (toMarkS_spec s1 hb1) fun u39 μ39 hle39 hap39 hf39 => ?_
  replace s0 := s0.mono hle39
  replace s1 := s1.mono hle39
  replace h2 := h2.mono hle39
  replace hw := hw.mono hle39
  replace o0 := o0.mono hle39
  obtain ⟨bb40, cc40, rfl, o1⟩ := Rep.sl hf39.rep
  rw [List.length_map] at o1 ⊢
  have o1r := hf39.rep
  rw [List.length_map] at o1r
  refine call_data hap39 (toTerm_spec t2 h2 hb2) fun u41 μ41 hle41 hap41 hf41 => ?_
  replace s0 := s0.mono hle41
  replace s1 := s1.mono hle41
  replace h2 := h2.mono hle41
  replace hw := hw.mono hle41
  replace o0 := o0.mono hle41
  replace o1 := o1.mono hle41
  replace o1r := o1r.mono hle41
  obtain ⟨qq42, rfl⟩ := Tm.invV hf41.rep
  have o2 := hf41.rep
  refine call_data hap41 ((impl_AddAbsence_spec (tag := tag) o0 o1r o2 (by omega)).weaken fun v μ' _ h => optMk_fresh h) fun u43 μ43 hle43 hap43 hR => ?_
  replace s0 := s0.mono hle43
  replace s1 := s1.mono hle43
  replace h2 := h2.mono hle43
  replace hw := hw.mono hle43
  replace o0 := o0.mono hle43
  replace o1 := o1.mono hle43
  replace o1r := o1r.mono hle43
  replace o2 := o2.mono hle43
  obtain ⟨h0, rfl, hh0⟩ := hR
  obtain ⟨bb44, cc44, rfl, hh⟩ := Rep.sl hh0.rep
  rw [List.length_map] at hh ⊢
  refine call_read hap43 (eqMarkS_spec (hh.mono (Mem.le_join _ _)) (hw.mono (Mem.le_join _ _))) ?_
  refine if_intro (fun h => nomatch h) (fun _ => ?_)
  refine if_intro (fun h => absurd h (by simp)) (fun _ => ?_)
  refine call_read hap43 (heldMarkS_spec (Owns.rep (l1 := [_, _, _]) hap43 ho36) (by omega) (by omega)) ?_
  refine ifd (fun h => by omega) (fun _ => ?_)
  refine ifnd (fun h => absurd rfl h) (fun _ => ?_)
  exact ret_plain rfl
end
end Go.Vx

